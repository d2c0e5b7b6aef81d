/-
  The calls of works, Plain and Play, and the walk of the law. The two listed errors are held by their variables.
-/
import Derived.Test.YtblohnpdcjgmcaaGreatDoorTab
import Derived.Test.YtblohnpdcjgmcaaGreatDoorRunWorks
import Derived.Test.YtblohnpdcjgmcaaGreatDoorRunPlain
import Derived.Test.YtblohnpdcjgmcaaGreatDoorRunPlay
import Derived.WalkKit
import Derived.WalkSpells
import Derived.WalkLawsBesides
namespace Go.Proofs.YtblohnpdcjgmcaaGreatDoor.Clo
set_option linter.all false
open Go.Proofs
set_option maxRecDepth 100000

theorem call_of {fx : Fx} {k : Nat} (hk : fx.n = k) {us : List V} {v : V} {args : Array Value} {w : World} {bA oA bB oB : Nat}
    (run : lookR (callF tab 5 (exec 20000 tab 5) fx us h0) = some (v, .cl 62 .c 0 1 [gvA], .cl 62 .c 0 1 [gvB])) (H : Begun w bA oA bB oB) (hv : VRs (s0 w bA oA bB oB) us args.toList)
    (he : (callFunc k args).run Tryz.prog w = .ok (.enter k args) w) : Calls Tryz.prog k args w fun e w' => (∃ c σ', e = .returned c ∧ VR σ' v c) ∧ Stood w w' := by
  obtain ⟨h', hr, eA, eB⟩ := lookR_ok run
  have r := start_rel (P := Tryz.prog) (by kernel_rfl) (by kernel_rfl) H
  have hn := call_ok table 20000 fx us h0 _ h' hr (s0 w bA oA bB oB) w args r hv
  rw [hk] at hn
  rcases hn with ⟨_, _, _, h, _⟩ | ⟨_, _, h, _⟩ | ⟨f, args', h, hc⟩
  · rw [he] at h; cases h
  · rw [he] at h; cases h
  · rw [he] at h
    cases h
    refine Calls.mono hc fun x w' hx => ?_
    cases x with
    | returned c =>
      obtain ⟨σ', hx1, r', hv⟩ := hx
      exact ⟨⟨c, σ', rfl, hv⟩, stood_of H hx1 r' eA eB⟩
    | panicked c => exact hx.elim
    | outgrown => exact hx.elim

/-- What the script's run is to be. -/
theorem want_ok {σ : Sg} {c : Value} (h : VR σ (.t [want, .i .i64 0, .i .i64 0]) c) : ∃ bs : ByteArray, c = .tuple #[.string bs, .int .i64 0, .int .i64 0] ∧ VR σ want (.string bs) := by
  obtain ⟨cs, rfl, h'⟩ := h.inv_t
  clear h
  rename VRs _ _ _ => h
  obtain ⟨cs⟩ := cs
  cases h with | cons _ c0 _ _ h0 h =>
  cases h with | cons _ c1 _ _ h1 h =>
  cases h with | cons _ c2 _ _ h2 h =>
  cases h
  obtain ⟨_, rfl⟩ := h1.inv_i
  obtain ⟨_, rfl⟩ := h2.inv_i
  obtain ⟨bs, e, _, _⟩ := VR.inv_s h0
  subst e
  exact ⟨bs, rfl, h0⟩
theorem want_is {σ : Sg} {bs : ByteArray} (h : VR σ want (.string bs)) {B : ByteArray} (hl : B.data.toList.length = 331) (hp : VR σ want (.string B)) : bs = B := by
  obtain ⟨b1, e1, l1, n1⟩ := VR.inv_s h
  obtain ⟨b2, e2, l2, n2⟩ := VR.inv_s hp
  cases e1; cases e2
  have := packB_inj (l1.trans l2.symm) (n1.trans n2.symm)
  cases bs; cases B
  congr 1
  exact Array.toList_inj.1 this
theorem works_calls {w : World} {bA oA bB oB : Nat} (H : Begun w bA oA bB oB) : Calls Tryz.prog 7 #[] w fun e w' => e = .returned (.bool true) ∧ Stood w w' :=
  (call_of (k := 7) rfl works_run H .nil (enter_run (fn := Tryz.f7) (c := Tryz.f7.body.getD .skip) (by kernel_rfl) (by kernel_rfl) (by kernel_rfl) _ w)).mono fun e w' h => by
    obtain ⟨⟨c, σ', rfl, hv⟩, hs⟩ := h
    exact ⟨by rw [hv.inv_b], hs⟩
theorem plain_calls {w : World} {bA oA bB oB : Nat} (H : Begun w bA oA bB oB) {s : ByteArray} (hs : VR (s0 w bA oA bB oB) scr (.string s)) :
    Calls Tryz.prog 5 #[.string s, .int .i64 4] w fun e w' => (∃ bs σ, e = .returned (.tuple #[.string bs, .int .i64 0, .int .i64 0]) ∧ VR σ want (.string bs)) ∧ Stood w w' :=
  (call_of (k := 5) rfl plain_run H (.cons _ _ _ _ hs (.cons _ _ _ _ (.i .i64 4 (by decide)) .nil)) (enter_run (fn := Tryz.f5) (c := Tryz.f5.body.getD .skip) (by kernel_rfl) (by kernel_rfl) (by kernel_rfl) _ w)).mono fun e w' h => by
    obtain ⟨⟨c, σ', rfl, hv⟩, hs⟩ := h
    obtain ⟨bs, rfl, h2⟩ := want_ok hv
    exact ⟨⟨bs, σ', rfl, h2⟩, hs⟩
theorem play_calls {w : World} {bA oA bB oB : Nat} (H : Begun w bA oA bB oB) {s : ByteArray} (hs : VR (s0 w bA oA bB oB) scr (.string s)) :
    Calls Tryz.prog 6 #[.agg #[.int .i64 1, .int .i64 9, .int .i64 9, .int .i64 3, .int .i64 4], .string s, .slice none 0 0] w fun e w' => (∃ bs σ, e = .returned (.tuple #[.string bs, .int .i64 0, .int .i64 0]) ∧ VR σ want (.string bs)) ∧ Stood w w' :=
  (call_of (k := 6) rfl play_run H (.cons _ _ _ _ (.a _ _ (.cons _ _ _ _ (.i .i64 1 (by decide)) (.cons _ _ _ _ (.i .i64 9 (by decide)) (.cons _ _ _ _ (.i .i64 9 (by decide)) (.cons _ _ _ _ (.i .i64 3 (by decide)) (.cons _ _ _ _ (.i .i64 4 (by decide)) .nil))))) (by intro c hc; simp at hc; rcases hc with rfl | rfl | rfl | rfl | rfl <;> rfl)) (.cons _ _ _ _ hs (.cons _ _ _ _ .s0 .nil)))
    (enter_run (fn := Tryz.f6) (c := Tryz.f6.body.getD .skip) (by kernel_rfl) (by kernel_rfl) (by kernel_rfl) _ w)).mono fun e w' h => by
    obtain ⟨⟨c, σ', rfl, hv⟩, hs⟩ := h
    obtain ⟨bs, rfl, h2⟩ := want_ok hv
    exact ⟨⟨bs, σ', rfl, h2⟩, hs⟩
end Go.Proofs.YtblohnpdcjgmcaaGreatDoor.Clo

namespace Go.Proofs.YtblohnpdcjgmcaaGreatDoor.Clo
set_option linter.all false
open Go.Proofs
set_option maxRecDepth 100000
set_option maxHeartbeats 4000000

theorem hand_calls {w : World} {bA oA bB oB : Nat} (H : Begun w bA oA bB oB) : Calls Tryz.prog 3 #[] w fun e w' => e = .returned (.bool true) ∧ Stood w w' := by
  go_enter Tryz.func3, Tryz.ntmps3
  go_wp2_with (first
    | (go_at_call 4; go_in)
    | (go_at_call 5; refine (plain_calls H (.s _ _ _ (by kernel_rfl) (by kernel_rfl))).mono ?_; rintro e w1 ⟨⟨bs, σ1, rfl, hb1⟩, hs1⟩; obtain rfl : bs = ⟨#[49, 32, 51, 32, 53, 32, 56, 49, 99, 101, 48, 48, 48, 50, 48, 48, 48, 48, 48, 48, 48, 49, 48, 48, 48, 48, 48, 48, 48, 97, 10, 50, 32, 51, 32, 49, 32, 56, 48, 54, 48, 48, 48, 48, 48, 48, 48, 48, 48, 48, 48, 48, 48, 99, 48, 48, 48, 48, 50, 48, 51, 99, 48, 53, 97, 48, 48, 48, 48, 48, 49, 10, 50, 32, 51, 32, 49, 32, 56, 48, 54, 48, 48, 48, 48, 49, 48, 48, 48, 48, 48, 48, 54, 52, 99, 48, 48, 48, 48, 50, 48, 51, 48, 48, 53, 97, 48, 48, 48, 48, 48, 50, 10, 49, 32, 51, 32, 53, 32, 56, 49, 99, 101, 48, 48, 48, 50, 48, 48, 48, 48, 48, 48, 48, 49, 48, 48, 48, 48, 48, 48, 48, 98, 10, 50, 32, 51, 32, 49, 32, 56, 48, 54, 48, 48, 48, 48, 50, 48, 48, 48, 48, 48, 99, 49, 99, 99, 48, 48, 48, 48, 50, 48, 51, 99, 48, 53, 97, 48, 48, 48, 49, 48, 51, 10, 50, 32, 51, 32, 50, 32, 56, 48, 54, 48, 48, 48, 48, 48, 48, 48, 48, 48, 48, 48, 48, 48, 99, 48, 48, 48, 48, 50, 48, 51, 99, 48, 53, 97, 48, 48, 48, 48, 48, 49, 10, 50, 32, 51, 32, 50, 32, 56, 48, 54, 48, 48, 48, 48, 49, 48, 48, 48, 48, 48, 48, 54, 52, 99, 48, 48, 48, 48, 50, 48, 51, 48, 48, 53, 97, 48, 48, 48, 48, 48, 50, 10, 50, 32, 51, 32, 50, 32, 56, 48, 54, 48, 48, 48, 48, 50, 48, 48, 48, 48, 48, 99, 49, 99, 99, 48, 48, 48, 48, 50, 48, 51, 99, 48, 53, 97, 48, 48, 48, 49, 48, 51, 10, 50, 32, 51, 32, 52, 32, 56, 49, 99, 98, 48, 48, 48, 49, 99, 48, 48, 48, 48, 50, 48, 51, 10]⟩ := want_is hb1 (by kernel_rfl) (.s _ _ _ (by kernel_rfl) (by kernel_rfl)))
    | (go_at_call 6; refine (play_calls (H.stood (by assumption)) (.s _ _ _ (by kernel_rfl) (by kernel_rfl))).mono ?_; rintro e w2 ⟨⟨bs, σ1, rfl, hb1⟩, hs2⟩; obtain rfl : bs = ⟨#[49, 32, 51, 32, 53, 32, 56, 49, 99, 101, 48, 48, 48, 50, 48, 48, 48, 48, 48, 48, 48, 49, 48, 48, 48, 48, 48, 48, 48, 97, 10, 50, 32, 51, 32, 49, 32, 56, 48, 54, 48, 48, 48, 48, 48, 48, 48, 48, 48, 48, 48, 48, 48, 99, 48, 48, 48, 48, 50, 48, 51, 99, 48, 53, 97, 48, 48, 48, 48, 48, 49, 10, 50, 32, 51, 32, 49, 32, 56, 48, 54, 48, 48, 48, 48, 49, 48, 48, 48, 48, 48, 48, 54, 52, 99, 48, 48, 48, 48, 50, 48, 51, 48, 48, 53, 97, 48, 48, 48, 48, 48, 50, 10, 49, 32, 51, 32, 53, 32, 56, 49, 99, 101, 48, 48, 48, 50, 48, 48, 48, 48, 48, 48, 48, 49, 48, 48, 48, 48, 48, 48, 48, 98, 10, 50, 32, 51, 32, 49, 32, 56, 48, 54, 48, 48, 48, 48, 50, 48, 48, 48, 48, 48, 99, 49, 99, 99, 48, 48, 48, 48, 50, 48, 51, 99, 48, 53, 97, 48, 48, 48, 49, 48, 51, 10, 50, 32, 51, 32, 50, 32, 56, 48, 54, 48, 48, 48, 48, 48, 48, 48, 48, 48, 48, 48, 48, 48, 99, 48, 48, 48, 48, 50, 48, 51, 99, 48, 53, 97, 48, 48, 48, 48, 48, 49, 10, 50, 32, 51, 32, 50, 32, 56, 48, 54, 48, 48, 48, 48, 49, 48, 48, 48, 48, 48, 48, 54, 52, 99, 48, 48, 48, 48, 50, 48, 51, 48, 48, 53, 97, 48, 48, 48, 48, 48, 50, 10, 50, 32, 51, 32, 50, 32, 56, 48, 54, 48, 48, 48, 48, 50, 48, 48, 48, 48, 48, 99, 49, 99, 99, 48, 48, 48, 48, 50, 48, 51, 99, 48, 53, 97, 48, 48, 48, 49, 48, 51, 10, 50, 32, 51, 32, 52, 32, 56, 49, 99, 98, 48, 48, 48, 49, 99, 48, 48, 48, 48, 50, 48, 51, 10]⟩ := want_is hb1 (by kernel_rfl) (.s _ _ _ (by kernel_rfl) (by kernel_rfl)))
    | (go_at_call 7; refine (works_calls (H.stood (Stood.trans hs1 hs2))).mono ?_; rintro e w3 ⟨rfl, hs3⟩))
  refine bodyPost_ret (v := .bool true) (by simp [results, Tryz.f3, go_sem]) rfl ?_
  exact ⟨rfl, hs1.trans (hs2.trans hs3)⟩
end Go.Proofs.YtblohnpdcjgmcaaGreatDoor.Clo
