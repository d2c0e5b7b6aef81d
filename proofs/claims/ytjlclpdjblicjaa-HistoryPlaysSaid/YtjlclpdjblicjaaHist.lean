/-
  The functions of history that read, and the reference's Last, each by its contract. No condition but that the numbers fit their kinds.
-/
import Derived.Test.YtjlclpdjblicjaaBack
namespace Go.Proofs.Ytjlclpdjblicjaa
open Go.RowKit Go.Sort Go.BigFrame
set_option linter.unusedVariables false
attribute [local go_sem ↓] Go.wp_at_zero Go.wp_at_succ
/-- How many are kept. -/
def mostN (n : Int) : Nat := (max 0 (min n 64)).toNat
theorem mostN_le (n : Int) : mostN n ≤ 64 := by unfold mostN; omega
theorem mostN_eq (n : Int) : (mostN n : Int) = max 0 (min n 64) := by unfold mostN; omega
/-- A history: its header at hb, what it keeps. -/
structure HistH (w : World) (B hb : Nat) (v : Value) (l : List Ent) (m : Nat) : Prop where
  blk : BlkIs w hb #[v, .int .i64 m] 88
  line : Line w B 7 v l.length (ents l)
  ne : v.ownBlock ≠ some hb
  len : l.length ≤ m
  top : m ≤ 64
theorem HistH.keep {w w' : World} {B hb m : Nat} {v : Value} {l : List Ent} (h : HistH w B hb v l m) (k : Below w.heap.size w w') : HistH w' B hb v l m := by
  have ib := h.blk
  have ia : After w w' := ⟨k⟩
  exact ⟨inferInstance, h.line.keep k, h.ne, h.len, h.top⟩
theorem newH (n : Int) (w : World) (h0 : -9223372036854775808 ≤ n) (h1 : n ≤ 9223372036854775807) :
    Calls Try.prog 28 #[.int .i64 n] w fun e w' => e = .returned (.pointer (some ⟨w.heap.size, 0, none⟩)) ∧ w' = w.alloc (.cells #[.slice none 0 0, .int .i64 (mostN n)] 88) := by
  have hm := mostN_eq n
  have HM := Lib.hid hm
  clear hm
  have hc : n < 0 ∨ (0 ≤ n ∧ n < 64) ∨ 64 ≤ n := by omega
  rcases hc with hc | ⟨hc, hc2⟩ | hc
  all_goals
    go_enter Try.func28, Try.ntmps28
    go_wp2
    all_goals refine ret_any ⟨_, by simp [results, Try.results28, go_sem]; rfl, ?_⟩ rfl
    all_goals refine ⟨rfl, ?_⟩
    all_goals rw [HM.out]
    all_goals first | rw [show max 0 (min n 64) = 0 by omega] | rw [show max 0 (min n 64) = n by omega] | rw [show max 0 (min n 64) = 64 by omega]
set_option maxRecDepth 100000 in
theorem cloneR {v : Value} {n : Nat} {l : List Ent} {w : World} (h : Has w 7 v n (ents l)) (hl : l.length = n) (hn : n ≤ 100000000) :
    Calls Try.prog 50 #[v] w fun e w' => ∃ v', e = .returned v' ∧ Line w' w.heap.size 7 v' n (ents l) ∧ Below w.heap.size w w' := by
  have HH := Lib.hid h
  obtain ⟨hx, ao, cap, rfl, hcap, hcap', h0, h5⟩ := h
  unfold maxLen at hcap'
  cases ao with
  | none =>
    have hc0 := h0 rfl
    obtain rfl : n = 0 := by omega
    subst hc0
    have hl0 : l = [] := List.eq_nil_of_length_eq_zero hl
    subst hl0
    clear hx hcap hcap' h0 h5 HH
    have hnil := fun (w : World) => Lib.run_eql_slice_nil w 49 54 none 0 0 0 0 Try.underlying49
    go_enter Try.func50, Try.ntmps50
    go_wp2
    refine ret_any ⟨_, by simp [results, Try.results50, go_sem]; rfl, ?_⟩ rfl
    exact ⟨_, rfl, by simpa [ents] using Line.nil w w.heap.size 7, (by repeat (first | with_reducible exact Below.refl _ _ | (with_reducible refine Below.alloc ?_ ?_ _; rotate_left; focus ((try simp) <;> omega)) | (with_reducible refine Below.setCell ?_ ?_ _; rotate_left; focus ((try simp) <;> omega)) | (with_reducible refine below_grow ?_ ?_; rotate_left; focus ((try simp) <;> omega)) | (with_reducible refine below_putB ?_ ?_; rotate_left; focus ((try simp) <;> omega)) | with_reducible refine Below.drew ?_ | with_reducible refine below_drewN ?_ | with_reducible assumption | (with_reducible refine below_step (by assumption) ?_ ?_; rotate_left; focus ((try simp) <;> omega))))⟩
  | some a =>
    have HL := Lib.hid hl
    clear hx h0 h5 hl
    have hnil := fun (w : World) => Lib.run_eql_slice_nil w 49 54 (some a) n cap 0 0 Try.underlying49
    obtain ⟨i0, hi, hz0, hz1, hz2⟩ := info_parts info54
    have HI := And.intro (Lib.hid hi) (And.intro (Lib.hid hz0) (And.intro (Lib.hid hz1) (Lib.hid hz2)))
    clear hi hz0 hz1 hz2
    go_enter Try.func50, Try.ntmps50
    go_wp2_with (at_builtin; refine wpList_append_line _ rfl _ _ 49 rfl w.heap.size 54 i0 _ 7 40 Try.underlying49 HI.1.out HI.2.1.out HI.2.2.1.out HI.2.2.2.out rfl (by decide) _ _ 0 n [] (ents l) rfl rfl ⟨by simp, Or.inr ⟨w.heap.size, 0, 0, rfl, Nat.le_refl _, by simp, by omega, by unfold maxLen; omega, fun j u hu => by simp at hu, fun j hj => by omega⟩⟩ ((HH.out.keep (by repeat (first | with_reducible exact Below.refl _ _ | (with_reducible refine Below.alloc ?_ ?_ _; rotate_left; focus ((try simp) <;> omega)) | (with_reducible refine Below.setCell ?_ ?_ _; rotate_left; focus ((try simp) <;> omega)) | (with_reducible refine below_grow ?_ ?_; rotate_left; focus ((try simp) <;> omega)) | (with_reducible refine below_putB ?_ ?_; rotate_left; focus ((try simp) <;> omega)) | with_reducible refine Below.drew ?_ | with_reducible refine below_drewN ?_ | with_reducible assumption | (with_reducible refine below_step (by assumption) ?_ ?_; rotate_left; focus ((try simp) <;> omega))))).src' (ents_one _)) (by unfold maxLen; omega) (by omega) (by simp) _ rfl ?_; intro v5 w5 hown5 hgrow5 hat5)
    have hB5 : RowKit.Below w.heap.size w w5 := RowKit.Below.grown (w := _) (by repeat (first | with_reducible exact Below.refl _ _ | (with_reducible refine Below.alloc ?_ ?_ _; rotate_left; focus ((try simp) <;> omega)) | (with_reducible refine Below.setCell ?_ ?_ _; rotate_left; focus ((try simp) <;> omega)) | (with_reducible refine below_grow ?_ ?_; rotate_left; focus ((try simp) <;> omega)) | (with_reducible refine below_putB ?_ ?_; rotate_left; focus ((try simp) <;> omega)) | with_reducible refine Below.drew ?_ | with_reducible refine below_drewN ?_ | with_reducible assumption | (with_reducible refine below_step (by assumption) ?_ ?_; rotate_left; focus ((try simp) <;> omega)))) hgrow5 (by simp) (fun q hq => by have e : w.heap.size = q := Option.some.inj hq; omega)
    rw [List.nil_append, Nat.zero_add] at hown5
    have HO := Lib.hid hown5
    clear hown5 hgrow5 hat5
    go_wp2
    refine ret_any ⟨_, by simp [results, Try.results50, go_sem, *]; rfl, ?_⟩ rfl
    exact ⟨_, rfl, HO.out, hB5⟩
theorem allH {B hb m : Nat} {v : Value} {l : List Ent} {w : World} (h : HistH w B hb v l m) :
    Calls Try.prog 35 #[.pointer (some ⟨hb, 0, none⟩)] w fun e w' => ∃ v', e = .returned v' ∧ Line w' w.heap.size 7 v' l.length (ents l) ∧ Below w.heap.size w w' := by
  have ib := h.blk
  have ht := h.top
  have hl := h.len
  have kc := fun (w' : World) (k : Below w.heap.size w w') => cloneR ((Has.of_line h.line).keep k) rfl (by omega)
  have KC := Lib.hid kc
  clear kc h
  go_enter Try.func35, Try.ntmps35
  go_wp2_with (go_at_call 50; refine (KC.out _ (by repeat (first | with_reducible exact Below.refl _ _ | (with_reducible refine Below.alloc ?_ ?_ _; rotate_left; focus ((try simp) <;> omega)) | (with_reducible refine Below.setCell ?_ ?_ _; rotate_left; focus ((try simp) <;> omega)) | (with_reducible refine below_grow ?_ ?_; rotate_left; focus ((try simp) <;> omega)) | (with_reducible refine below_putB ?_ ?_; rotate_left; focus ((try simp) <;> omega)) | with_reducible refine Below.drew ?_ | with_reducible refine below_drewN ?_ | with_reducible assumption | (with_reducible refine below_step (by assumption) ?_ ?_; rotate_left; focus ((try simp) <;> omega))))).mono ?_; rintro e w2 ⟨v2, rfl, hL2, hb2⟩; have HL2 := Lib.hid hL2; clear hL2)
  refine ret_any ⟨_, by simp [results, Try.results35, go_sem, *]; rfl, ?_⟩ rfl
  exact ⟨_, rfl, HL2.out, (by repeat (first | with_reducible exact Below.refl _ _ | (with_reducible refine Below.alloc ?_ ?_ _; rotate_left; focus ((try simp) <;> omega)) | (with_reducible refine Below.setCell ?_ ?_ _; rotate_left; focus ((try simp) <;> omega)) | (with_reducible refine below_grow ?_ ?_; rotate_left; focus ((try simp) <;> omega)) | (with_reducible refine below_putB ?_ ?_; rotate_left; focus ((try simp) <;> omega)) | with_reducible refine Below.drew ?_ | with_reducible refine below_drewN ?_ | with_reducible assumption | (with_reducible refine below_step (by assumption) ?_ ?_; rotate_left; focus ((try simp) <;> omega))))⟩
theorem allNil18 (w : World) : Calls Try.prog 35 #[.pointer none] w (Gives (.slice none 0 0) w) := by
  go_enter Try.func35, Try.ntmps35
  go_wp2
  refine ret_any ⟨_, by simp [results, Try.results35, go_sem]; rfl, ?_⟩ rfl
  refine gives_of rfl (by repeat (first | with_reducible exact Below.refl _ _ | (with_reducible refine Below.alloc ?_ ?_ _; rotate_left; focus ((try simp) <;> omega)) | (with_reducible refine Below.setCell ?_ ?_ _; rotate_left; focus ((try simp) <;> omega)) | (with_reducible refine below_grow ?_ ?_; rotate_left; focus ((try simp) <;> omega)) | (with_reducible refine below_putB ?_ ?_; rotate_left; focus ((try simp) <;> omega)) | with_reducible refine Below.drew ?_ | with_reducible refine below_drewN ?_ | with_reducible assumption | (with_reducible refine below_step (by assumption) ?_ ?_; rotate_left; focus ((try simp) <;> omega))))
theorem clearNil (w : World) : Calls Try.prog 34 #[.pointer none] w (Gives (.slice none 0 0) w) := by
  go_enter Try.func34, Try.ntmps34
  go_wp2_with (first | (go_at_call 35; refine (allNil18 _).mono ?_; rintro e w1 ⟨rfl, hb1⟩; have ha1 : After _ w1 := ⟨hb1⟩; obtain ⟨hc1, hf1⟩ := after hb1; have hz1 := hb1.size; try simp at hz1))
  refine ret_any ⟨_, by simp [results, Try.results34, go_sem, *]; rfl, ?_⟩ rfl
  refine gives_of rfl (by repeat (first | with_reducible exact Below.refl _ _ | (with_reducible refine Below.alloc ?_ ?_ _; rotate_left; focus ((try simp) <;> omega)) | (with_reducible refine Below.setCell ?_ ?_ _; rotate_left; focus ((try simp) <;> omega)) | (with_reducible refine below_grow ?_ ?_; rotate_left; focus ((try simp) <;> omega)) | (with_reducible refine below_putB ?_ ?_; rotate_left; focus ((try simp) <;> omega)) | with_reducible refine Below.drew ?_ | with_reducible refine below_drewN ?_ | with_reducible assumption | (with_reducible refine below_step (by assumption) ?_ ?_; rotate_left; focus ((try simp) <;> omega))))
theorem clearH {B hb m : Nat} {v : Value} {l : List Ent} {w : World} (h : HistH w B hb v l m) :
    Calls Try.prog 34 #[.pointer (some ⟨hb, 0, none⟩)] w fun e w' => ∃ v', e = .returned v' ∧ Line w' w.heap.size 7 v' l.length (ents l) ∧ HistH w' B hb (.slice none 0 0) [] m ∧ FrameS (fun k => k = hb) w w' := by
  have ib := h.blk
  have ht := h.top
  have ka := fun (w' : World) (k : Below w.heap.size w w') => allH (h.keep k)
  have KA := Lib.hid ka
  clear ka h
  go_enter Try.func34, Try.ntmps34
  go_wp2_with (go_at_call 35; refine (KA.out _ (by repeat (first | with_reducible exact Below.refl _ _ | (with_reducible refine Below.alloc ?_ ?_ _; rotate_left; focus ((try simp) <;> omega)) | (with_reducible refine Below.setCell ?_ ?_ _; rotate_left; focus ((try simp) <;> omega)) | (with_reducible refine below_grow ?_ ?_; rotate_left; focus ((try simp) <;> omega)) | (with_reducible refine below_putB ?_ ?_; rotate_left; focus ((try simp) <;> omega)) | with_reducible refine Below.drew ?_ | with_reducible refine below_drewN ?_ | with_reducible assumption | (with_reducible refine below_step (by assumption) ?_ ?_; rotate_left; focus ((try simp) <;> omega))))).mono ?_; rintro e w2 ⟨v2, rfl, hL2, hb2⟩; have ha2 : After _ w2 := ⟨hb2⟩; have HL2 := Lib.hid hL2; clear hL2)
  have hlt := ib.lt
  have hne : v2.ownBlock ≠ some hb := fun e => by have := (HL2.out.lt e).1; omega
  refine ret_any ⟨_, by simp [results, Try.results34, go_sem, *]; rfl, ?_⟩ rfl
  refine ⟨_, rfl, HL2.out.block (by simp) (fun q hq => putB_other (fun e => hne (by rw [hq, e]))), ⟨inferInstance, by simpa [ents] using Line.nil _ B 7, by simp [Value.ownBlock], by simp, ht⟩, ?_⟩
  exact ⟨hb2.os, hb2.tape, hb2.output, by simpa using hb2.size, fun k hk hn => by rw [putB_other hn]; exact hb2.block k hk⟩
/-- Last. -/
theorem lastR {B len : Nat} {v : Value} {L : List Ent} {w : World} (h : Line w B 7 v len (ents L)) (n : Int) (hn0 : -9223372036854775808 ≤ n) (hn1 : n ≤ 9223372036854775807) (hlen : len ≤ 100000000) :
    Calls Try.prog 29 #[v, .int .i64 n] w fun e w' => e = .returned (cutFrom v (len - mostN n) 7) ∧ w = w' := by
  obtain ⟨m, hm⟩ : ∃ m, m = mostN n := ⟨_, rfl⟩
  have hmn := mostN_eq n
  rw [← hm] at hmn ⊢
  have hc : (n < 0 ∧ m = 0) ∨ (n = 0 ∧ m = 0) ∨ (0 < n ∧ n < 64 ∧ n = m) ∨ (n = 64 ∧ m = 64) ∨ (64 < n ∧ m = 64) := by omega
  rcases h.2 with ⟨rfl, rfl⟩ | ⟨g, off, cap, rfl, hb, hg, hnc, hcm, _⟩
  · clear h hm hmn
    rcases hc with ⟨hc, rfl⟩ | ⟨rfl, rfl⟩ | ⟨hc, hc2, rfl⟩ | ⟨rfl, rfl⟩ | ⟨hc, rfl⟩
    all_goals
      go_enter Try.func29, Try.ntmps29
      go_wp2
      all_goals refine ret_any ⟨_, by simp [results, Try.results29, go_sem]; rfl, ?_⟩ rfl
      all_goals exact ⟨rfl, rfl⟩
  · unfold maxLen at hcm
    clear h hm hmn
    have hk : m ≤ len ∧ 0 < m ∨ m = 0 ∨ len < m := by omega
    rcases hk with ⟨hk, hk0⟩ | hk | hk
    · obtain ⟨k, rfl⟩ : ∃ k, len = k + m := ⟨len - m, by omega⟩
      have e : cutFrom (.slice (some ⟨g, off, none⟩) (k + m) cap) (k + m - m) 7 = .slice (some ⟨g, off + k * 7, none⟩) m (cap - k) := by
        unfold cutFrom
        simp only [Nat.add_sub_cancel, Nat.add_sub_cancel_left]
        rw [if_neg (by omega)]
      rw [e]
      clear e
      rcases hc with ⟨hc, rfl⟩ | ⟨rfl, rfl⟩ | ⟨hc, hc2, rfl⟩ | ⟨rfl, rfl⟩ | ⟨hc, rfl⟩
      · omega
      · omega
      all_goals
        go_enter Try.func29, Try.ntmps29
        go_wp2
        all_goals refine ret_any ⟨_, by simp [results, Try.results29, go_sem]; rfl, ?_⟩ rfl
        all_goals exact ⟨by first | rfl | (congr 2; omega), rfl⟩
    · subst hk
      by_cases hx : len = cap
      · subst hx
        have e : cutFrom (.slice (some ⟨g, off, none⟩) len len) (len - 0) 7 = .slice (some ⟨g, off, none⟩) 0 0 := by
          unfold cutFrom
          simp
        rw [e]
        clear e
        rcases hc with ⟨hc, _⟩ | ⟨rfl, _⟩ | ⟨hc, hc2, rfl⟩ | ⟨rfl, hc⟩ | ⟨_, hc⟩
        · go_enter Try.func29, Try.ntmps29
          go_wp2
          all_goals refine ret_any ⟨_, by simp [results, Try.results29, go_sem]; rfl, ?_⟩ rfl
          all_goals exact ⟨by first | rfl | (congr 2; omega), rfl⟩
        · go_enter Try.func29, Try.ntmps29
          go_wp2
          all_goals refine ret_any ⟨_, by simp [results, Try.results29, go_sem]; rfl, ?_⟩ rfl
          all_goals exact ⟨by first | rfl | (congr 2; omega), rfl⟩
        all_goals omega
      · have hx' : len < cap := by omega
        have e : cutFrom (.slice (some ⟨g, off, none⟩) len cap) (len - 0) 7 = .slice (some ⟨g, off + len * 7, none⟩) 0 (cap - len) := by
          unfold cutFrom
          simp [hx]
        rw [e]
        clear e hx
        rcases hc with ⟨hc, _⟩ | ⟨rfl, _⟩ | ⟨hc, hc2, rfl⟩ | ⟨rfl, hc⟩ | ⟨_, hc⟩
        · go_enter Try.func29, Try.ntmps29
          go_wp2
          all_goals refine ret_any ⟨_, by simp [results, Try.results29, go_sem]; rfl, ?_⟩ rfl
          all_goals exact ⟨by first | rfl | (congr 2; omega), rfl⟩
        · go_enter Try.func29, Try.ntmps29
          go_wp2
          all_goals refine ret_any ⟨_, by simp [results, Try.results29, go_sem]; rfl, ?_⟩ rfl
          all_goals exact ⟨by first | rfl | (congr 2; omega), rfl⟩
        all_goals omega
    · have e : cutFrom (.slice (some ⟨g, off, none⟩) len cap) (len - m) 7 = .slice (some ⟨g, off, none⟩) len cap := by
        unfold cutFrom
        simp [show len - m = 0 by omega]
      rw [e]
      clear e
      rcases hc with ⟨hc, rfl⟩ | ⟨rfl, rfl⟩ | ⟨hc, hc2, rfl⟩ | ⟨rfl, rfl⟩ | ⟨hc, rfl⟩
      · omega
      · omega
      all_goals
        go_enter Try.func29, Try.ntmps29
        go_wp2
        all_goals refine ret_any ⟨_, by simp [results, Try.results29, go_sem]; rfl, ?_⟩ rfl
        all_goals exact ⟨by first | rfl | (congr 2; omega), rfl⟩
end Go.Proofs.Ytjlclpdjblicjaa
