/-
  All of a ring, by its contract: a slice of the call's own that holds the cells in their order. No condition but that the ring is one.
-/
import Derived.Test.YtjlclpdjblicjaaRingNew
import Derived.Test.YtjlclpdjblicjaaTypes
import Derived.Deep.RegionLaw
import Derived.Deep.AppendLies
namespace Go.Proofs.Ytjlclpdjblicjaa
open Go.RowKit Go.Sort Go.BigFrame
set_option linter.unusedVariables false
attribute [local go_sem ↓] Go.wp_at_zero Go.wp_at_succ
def four (x : Int × Int × Int × Int) : List Value := [.int .i64 x.1, .int .i64 x.2.1, .int .i64 x.2.2.1, .int .u32 x.2.2.2]
def cells4 (l : List (Int × Int × Int × Int)) : List Value := l.flatMap four
theorem cells4_append (l : List (Int × Int × Int × Int)) (x : Int × Int × Int × Int) : cells4 (l ++ [x]) = cells4 l ++ four x := by simp [cells4]
def ringL (A : Nat → Int × Int × Int × Int) (f c n : Nat) : List (Int × Int × Int × Int) := (List.range n).map (fun i => A ((f + i) % c))
theorem ringL_succ (A : Nat → Int × Int × Int × Int) (f c n : Nat) : ringL A f c (n + 1) = ringL A f c n ++ [A ((f + n) % c)] := by simp [ringL, List.range_succ]
theorem own_keep {w w' : World} {B e size n : Nat} {v : Value} {xs : List Value} (h : w.ownsRow B e size v n xs) (k : Below w.heap.size w w') : w'.ownsRow B e size v n xs := by
  refine ⟨h.1, ?_⟩
  rcases h.2 with h1 | ⟨g, cap, cur, hv, hb, hg, r⟩
  · exact Or.inl h1
  · exact Or.inr ⟨g, cap, cur, hv, hb, by rw [k.block g (Array.getElem?_eq_some_iff.1 hg).1]; exact hg, r⟩
theorem four_cells {w : World} {b : Nat} {x : Int × Int × Int × Int} (h0 : w.cell? ⟨b, 0, none⟩ = some (.int .i64 x.1)) (h1 : w.cell? ⟨b, 1, none⟩ = some (.int .i64 x.2.1)) (h2 : w.cell? ⟨b, 2, none⟩ = some (.int .i64 x.2.2.1)) (h3 : w.cell? ⟨b, 3, none⟩ = some (.int .u32 x.2.2.2)) :
    ∀ j u, (four x)[j]? = some u → w.cell? ((⟨b, 0, none⟩ : Addr).add j) = some u := by
  intro j u hj
  match j, hj with
  | 0, hj => simp [four] at hj; subst hj; exact h0
  | 1, hj => simp [four] at hj; subst hj; exact h1
  | 2, hj => simp [four] at hj; subst hj; exact h2
  | 3, hj => simp [four] at hj; subst hj; exact h3
theorem four_one (x : Int × Int × Int × Int) : ∀ u ∈ four x, u.oneCell' = true := by
  intro u hu
  simp only [four, List.mem_cons, List.not_mem_nil, or_false] at hu
  rcases hu with rfl | rfl | rfl | rfl <;> rfl
theorem far_own {w w1 w3 : World} {B e size n b o : Nat} {v : Value} {xs : List Value} (h : w.ownsRow B e size v n xs) (hg : w1.grownBy w3 v.ownBlock) (hb : b < B) (hb' : b < w1.heap.size) : w3.cell? ⟨b, o, none⟩ = w1.cell? ⟨b, o, none⟩ := by
  refine World.cell?_of_block (w := w1) (hg.block b hb' fun e => ?_)
  rcases h.2 with ⟨h1, _⟩ | ⟨g, cap, cur, hv, hgb, _⟩
  · subst h1; simp [Value.ownBlock] at e
  · subst hv; simp [Value.ownBlock] at e; omega
set_option maxRecDepth 100000 in
theorem allR {b g c f n : Nat} {A : Nat → Int × Int × Int × Int} {w : World} (h : RingH w b g c f n) (ha : RingA w g c A) :
    Calls Try.prog 26 #[.pointer (some ⟨b, 0, none⟩)] w fun e w' => ∃ v, e = .returned v ∧ w'.ownsRow w.heap.size 32 4 v n (cells4 (ringL A f c n)) ∧ Below w.heap.size w w' := by
  have H := h
  have HA := Lib.hid ha
  obtain ⟨h0, h1, h2, h3, h4, h5, h6, h7, h8, h9, h10, h11⟩ := h
  have ob : Old b w := ⟨h6⟩
  have og : Old g w := ⟨h7⟩
  clear ha
  obtain ⟨i0, hi, hz0, hz1, hz2⟩ := info_parts info32
  have HI := And.intro (Lib.hid hi) (And.intro (Lib.hid hz0) (And.intro (Lib.hid hz1) (Lib.hid hz2)))
  clear hi hz0 hz1 hz2
  go_enter Try.func26, Try.ntmps26
  go_wp2_with (go_at_call 23; refine (lenR (H.keep (by repeat (first | with_reducible exact Below.refl _ _ | (with_reducible refine Below.alloc ?_ ?_ _; rotate_left; focus ((try simp) <;> omega)) | (with_reducible refine Below.setCell ?_ ?_ _; rotate_left; focus ((try simp) <;> omega)) | (with_reducible refine below_grow ?_ ?_; rotate_left; focus ((try simp) <;> omega)) | (with_reducible refine below_putB ?_ ?_; rotate_left; focus ((try simp) <;> omega)) | with_reducible refine Below.drew ?_ | with_reducible refine below_drewN ?_ | with_reducible assumption | (with_reducible refine below_step (by assumption) ?_ ?_; rotate_left; focus ((try simp) <;> omega)))))).mono ?_; rintro e w' ⟨rfl, rfl⟩)
  go_loopw [3, 7] (fun s3 s7 wr => ∃ k : Nat, k ≤ n ∧ s7 = .int .i64 k ∧ wr.ownsRow w.heap.size 32 4 s3 k (cells4 (ringL A f c k)) ∧ Below w.heap.size w wr) (fun _ i _ => n - (intOf i).toNat)
  case atStart => exact ⟨0, by omega, rfl, World.ownsRow_nil _ _ _ _, Below.refl _ _⟩
  case round =>
    obtain ⟨k, hk, rfl, hown, hbel⟩ := hrel
    by_cases hlt : k < n
    · have HR := H.keep hbel
      have kk : (f + k) % c < c := Nat.mod_lt _ h8
      obtain ⟨j, hj⟩ : ∃ j, j = (f + k) % c := ⟨_, rfl⟩
      rw [← hj] at kk
      have HJ := Lib.hid hj
      have a0 := (HA.out.keep h7 hbel).c0 j kk
      have a1 := (HA.out.keep h7 hbel).c1 j kk
      have a2 := (HA.out.keep h7 hbel).c2 j kk
      have a3 := (HA.out.keep h7 hbel).c3 j kk
      have p0 := HR.row
      have or1 : Old b wr := ⟨HR.lb⟩
      have or2 : Old g wr := ⟨HR.lg⟩
      have hbs := hbel.size
      clear h0 h1 h2 h3 h4 hj
      go_wp2
      go_region_held3 (fun w' => w'.cell? ⟨b, 0, none⟩ = some (.slice (some ⟨g, 0, none⟩) c c) ∧ w'.cell? ⟨g, j * 4, none⟩ = some (.int .i64 (A j).1) ∧ w'.cell? ⟨g, j * 4 + 1, none⟩ = some (.int .i64 (A j).2.1) ∧ w'.cell? ⟨g, j * 4 + 2, none⟩ = some (.int .i64 (A j).2.2.1) ∧ w'.cell? ⟨g, j * 4 + 3, none⟩ = some (.int .u32 (A j).2.2.2)) (first | (simp [*, go_sem]; done) | (refine ⟨?_, ?_, ?_, ?_, ?_⟩ <;> (rw [far_own hown hgrow (by assumption) (by simp; omega)]; simp [*, go_sem]))) ((first | (go_at_call 47; refine (atR' k (HR.keep (by repeat (first | with_reducible exact Below.refl _ _ | (with_reducible refine Below.alloc ?_ ?_ _; rotate_left; focus ((try simp) <;> omega)) | (with_reducible refine Below.setCell ?_ ?_ _; rotate_left; focus ((try simp) <;> omega)) | (with_reducible refine below_grow ?_ ?_; rotate_left; focus ((try simp) <;> omega)) | (with_reducible refine below_putB ?_ ?_; rotate_left; focus ((try simp) <;> omega)) | with_reducible refine Below.drew ?_ | with_reducible refine below_drewN ?_ | with_reducible assumption | (with_reducible refine below_step (by assumption) ?_ ?_; rotate_left; focus ((try simp) <;> omega))))) (by omega) HJ.out).mono ?_; rintro e w2 ⟨rfl, hb2⟩; have ha2 : After _ w2 := ⟨hb2⟩; obtain ⟨hc2, hf2⟩ := after hb2; have hz2 := hb2.size; try simp at hz2) | (refine step_append_lies _ (by rfl) _ _ 38 (by rfl) w.heap.size 32 i0 _ 4 32 Try.underlying38 HI.1.out HI.2.1.out HI.2.2.1.out HI.2.2.2.out rfl (by decide) u3 k (cells4 (ringL A f c k)) (by rfl) (own_keep hown (by repeat (first | with_reducible exact Below.refl _ _ | (with_reducible refine Below.alloc ?_ ?_ _; rotate_left; focus ((try simp) <;> omega)) | (with_reducible refine Below.setCell ?_ ?_ _; rotate_left; focus ((try simp) <;> omega)) | (with_reducible refine below_grow ?_ ?_; rotate_left; focus ((try simp) <;> omega)) | (with_reducible refine below_putB ?_ ?_; rotate_left; focus ((try simp) <;> omega)) | with_reducible refine Below.drew ?_ | with_reducible refine below_drewN ?_ | with_reducible assumption | (with_reducible refine below_step (by assumption) ?_ ?_; rotate_left; focus ((try simp) <;> omega))))) ⟨w2.heap.size, 0, none⟩ 1 1 (four (A j)) (by rfl) rfl (four_cells (by simp [go_sem]) (by simp [go_sem]) (by simp [go_sem]) (by simp [go_sem])) (four_one _) (by omega) (by unfold maxLen; omega) (by omega) (by simp; omega) (w2.heap.size + 1) (by simp) ?_; intro v' cap' w3 hown' hgrow hin hlt3)))
      have hB3 : RowKit.Below w.heap.size w w3 := by
        refine RowKit.Below.grown (w := w2.alloc _) (by repeat (first | with_reducible exact Below.refl _ _ | (with_reducible refine Below.alloc ?_ ?_ _; rotate_left; focus ((try simp) <;> omega)) | (with_reducible refine Below.setCell ?_ ?_ _; rotate_left; focus ((try simp) <;> omega)) | (with_reducible refine below_grow ?_ ?_; rotate_left; focus ((try simp) <;> omega)) | (with_reducible refine below_putB ?_ ?_; rotate_left; focus ((try simp) <;> omega)) | with_reducible refine Below.drew ?_ | with_reducible refine below_drewN ?_ | with_reducible assumption | (with_reducible refine below_step (by assumption) ?_ ?_; rotate_left; focus ((try simp) <;> omega)))) hgrow (by simp; omega) (fun q hq => ?_)
        rcases hown.2 with ⟨e1, _⟩ | ⟨g', cap, cur, hv, hgb, _⟩
        · subst e1; simp [Value.ownBlock] at hq
        · subst hv; simp [Value.ownBlock] at hq; omega
      have hx : cells4 (ringL A f c (k + 1)) = cells4 (ringL A f c k) ++ four (A j) := by rw [ringL_succ, cells4_append, HJ.out]
      rw [← hx] at hown'
      have HO := Lib.hid hown'
      clear hown hown' hgrow hin
      go_wp2
      go_roundw
      case rel => exact ⟨k + 1, by omega, by go_num, HO.out, hB3⟩
      case measure => simp [intOf]; omega
    · go_wp2
      refine ret_any ⟨_, by simp [results, Try.results26, go_sem, *]; rfl, ?_⟩ rfl
      obtain rfl : k = n := by omega
      exact ⟨_, rfl, hown, hbel⟩
end Go.Proofs.Ytjlclpdjblicjaa
