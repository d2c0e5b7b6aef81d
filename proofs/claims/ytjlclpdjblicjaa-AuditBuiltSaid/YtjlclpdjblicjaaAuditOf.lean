/-
  Slots and handles; of: is a handle one of a slot as it stands? By its contract. No condition but that the slots are not too many.
-/
import Derived.Test.YtjlclpdjblicjaaEnts
namespace Go.Proofs.Ytjlclpdjblicjaa
open Go.RowKit Go.Sort Go.BigFrame
set_option linter.unusedVariables false
attribute [local go_sem ↓] Go.wp_at_zero Go.wp_at_succ
/-- A slot's cells: its generation and its count. -/
def slC (x : Int × Int) : List Value := [.int .u32 x.1, .int .i64 x.2]
def sls (l : List (Int × Int)) : List Value := l.flatMap slC
/-- A handle's cells: its slot and its generation. -/
def hdC (x : Int × Int) : List Value := [.int .i64 x.1, .int .u32 x.2]
def hds (l : List (Int × Int)) : List Value := l.flatMap hdC
theorem hds_app (a b : List (Int × Int)) : hds (a ++ b) = hds a ++ hds b := by simp [hds]
theorem sls_app (a b : List (Int × Int)) : sls (a ++ b) = sls a ++ sls b := by simp [sls]
theorem hds_len (l : List (Int × Int)) : (hds l).length = l.length * 2 := by
  induction l with
  | nil => rfl
  | cons x r ih => unfold hds at *; rw [List.flatMap_cons, List.length_append, ih]; simp [hdC]; omega
theorem sls_len (l : List (Int × Int)) : (sls l).length = l.length * 2 := by
  induction l with
  | nil => rfl
  | cons x r ih => unfold sls at *; rw [List.flatMap_cons, List.length_append, ih]; simp [slC]; omega
theorem hds_one (l : List (Int × Int)) : ∀ u ∈ hds l, u.oneCell' = true := by
  intro u hu
  obtain ⟨x, _, hx⟩ := List.mem_flatMap.1 hu
  simp only [hdC, List.mem_cons, List.not_mem_nil, or_false] at hx
  rcases hx with h | h <;> subst h <;> rfl
theorem sls_one (l : List (Int × Int)) : ∀ u ∈ sls l, u.oneCell' = true := by
  intro u hu
  obtain ⟨x, _, hx⟩ := List.mem_flatMap.1 hu
  simp only [slC, List.mem_cons, List.not_mem_nil, or_false] at hx
  rcases hx with h | h <;> subst h <;> rfl
theorem two_at {f : Int × Int → List Value} (hf : ∀ x, (f x).length = 2) (l : List (Int × Int)) (k : Nat) (hk : k < l.length) (j : Nat) (hj : j < 2) : (l.flatMap f)[k * 2 + j]? = (f (l.getD k (0, 0)))[j]? := by
  induction l generalizing k with
  | nil => simp at hk
  | cons x r ih =>
    rw [List.flatMap_cons]
    cases k with
    | zero => rw [List.getElem?_append_left (by rw [hf]; omega)]; simp
    | succ k =>
      rw [List.getElem?_append_right (by rw [hf]; omega), hf, show (k + 1) * 2 + j - 2 = k * 2 + j by omega, ih k (by simpa using hk)]
      simp
/-- The k-th slot's cells. -/
theorem sl_cells {w : World} {n : Nat} {v : Value} {l : List (Int × Int)} (h : Has w 2 v n (sls l)) (hl : l.length = n) (k : Nat) (hk : k < n) :
    ∃ g off cap, v = .slice (some ⟨g, off, none⟩) n cap ∧ g < w.heap.size ∧ cap ≤ maxLen ∧ w.cell? ⟨g, off + k * 2, none⟩ = some (.int .u32 (l.getD k (0, 0)).1) ∧ w.cell? ⟨g, off + k * 2 + 1, none⟩ = some (.int .i64 (l.getD k (0, 0)).2) := by
  obtain ⟨ao, cap, rfl, _, hc⟩ := h.shape
  obtain ⟨g, off, rfl, hg, hcell⟩ := h.cell (by omega)
  have e0 := two_at (f := slC) (fun _ => rfl) l k (by omega) 0 (by omega)
  have e1 := two_at (f := slC) (fun _ => rfl) l k (by omega) 1 (by omega)
  refine ⟨g, off, cap, rfl, hg, hc, ?_, ?_⟩
  · have := hcell _ _ e0; rwa [Nat.add_zero] at this
  · have := hcell _ _ e1; rwa [← Nat.add_assoc] at this
/-- The k-th handle's cells. -/
theorem hd_cells {w : World} {n : Nat} {v : Value} {l : List (Int × Int)} (h : Has w 2 v n (hds l)) (hl : l.length = n) (k : Nat) (hk : k < n) :
    ∃ g off cap, v = .slice (some ⟨g, off, none⟩) n cap ∧ g < w.heap.size ∧ cap ≤ maxLen ∧ w.cell? ⟨g, off + k * 2, none⟩ = some (.int .i64 (l.getD k (0, 0)).1) ∧ w.cell? ⟨g, off + k * 2 + 1, none⟩ = some (.int .u32 (l.getD k (0, 0)).2) := by
  obtain ⟨ao, cap, rfl, _, hc⟩ := h.shape
  obtain ⟨g, off, rfl, hg, hcell⟩ := h.cell (by omega)
  have e0 := two_at (f := hdC) (fun _ => rfl) l k (by omega) 0 (by omega)
  have e1 := two_at (f := hdC) (fun _ => rfl) l k (by omega) 1 (by omega)
  refine ⟨g, off, cap, rfl, hg, hc, ?_, ?_⟩
  · have := hcell _ _ e0; rwa [Nat.add_zero] at this
  · have := hcell _ _ e1; rwa [← Nat.add_assoc] at this
/-- Is a handle one of a slot as it stands? -/
def ofB (S : List (Int × Int)) (h : Int × Int) : Bool := decide (0 ≤ h.1) && (decide (h.1 < S.length) && ((S.getD h.1.toNat (0, 0)).1 == h.2))
set_option maxRecDepth 100000 in
set_option maxHeartbeats 2000000 in
theorem ofH {n : Nat} {sv rv wv hv : Value} {S : List (Int × Int)} {s g : Int} {w : World} (h : Has w 2 sv n (sls S)) (hl : S.length = n) (hn : n ≤ 100000000)
    (hr : rv.oneCell' = true) (hw : wv.oneCell' = true) (hh : hv.oneCell' = true) : Calls Try.prog 52 #[.agg #[sv, rv, wv, hv], .agg #[.int .i64 s, .int .u32 g]] w (Gives (.bool (ofB S (s, g))) w) := by
  have HH := Lib.hid h
  have HL := Lib.hid hl
  obtain ⟨ao, cap, rfl, hcap, hcap'⟩ := h.shape
  unfold maxLen at hcap'
  clear h hl
  by_cases h0 : s < 0
  · have hb : ofB S (s, g) = false := by unfold ofB; simp; omega
    rw [hb]
    clear hb
    have h0' : decide (0 ≤ s) = false := by simp; omega
    go_enter Try.func52, Try.ntmps52
    go_wp2_with fail
    refine wp_region_quiet_below (by kernel_rfl) (by kernel_rfl) ?_
    repeat (first | go_big_quiet_step (((fail))) | quiet_step (((fail))))
    refine wpQuiet_nil ?_
    intro _ hw'
    obtain ⟨⟨dq, osq⟩, hw''⟩ := hw'
    subst hw''
    go_wp2_with fail
    refine ret_any ⟨_, by simp [results, Try.results52, go_sem, *]; rfl, ?_⟩ rfl
    exact gives_of rfl (by repeat (first | with_reducible exact Below.refl _ _ | (with_reducible refine Below.alloc ?_ ?_ _; rotate_left; focus ((try simp) <;> omega)) | (with_reducible refine Below.setCell ?_ ?_ _; rotate_left; focus ((try simp) <;> omega)) | (with_reducible refine below_grow ?_ ?_; rotate_left; focus ((try simp) <;> omega)) | (with_reducible refine below_putB ?_ ?_; rotate_left; focus ((try simp) <;> omega)) | with_reducible refine Below.drew ?_ | with_reducible refine below_drewN ?_ | with_reducible assumption | (with_reducible refine below_step (by assumption) ?_ ?_; rotate_left; focus ((try simp) <;> omega))))
  · by_cases h1 : (n : Int) ≤ s
    · have hb : ofB S (s, g) = false := by
        unfold ofB
        have : ¬ (s < S.length) := by rw [HL.out]; omega
        simp [this]
      rw [hb]
      clear hb h0
      have h0' : (0 : Int) ≤ s := by omega
      have h1' : decide (s < (n : Int)) = false := by rw [decide_eq_false_iff_not]; omega
      clear h1
      go_enter Try.func52, Try.ntmps52
      go_wp2_with fail
      refine wp_region_quiet_below (by kernel_rfl) (by kernel_rfl) ?_
      repeat (first | go_big_quiet_step (((fail))) | quiet_step (((fail))))
      refine wpQuiet_nil ?_
      intro _ hw'
      obtain ⟨⟨dq, osq⟩, hw''⟩ := hw'
      subst hw''
      go_wp2_with fail
      refine ret_any ⟨_, by simp [results, Try.results52, go_sem, *]; rfl, ?_⟩ rfl
      exact gives_of rfl (by repeat (first | with_reducible exact Below.refl _ _ | (with_reducible refine Below.alloc ?_ ?_ _; rotate_left; focus ((try simp) <;> omega)) | (with_reducible refine Below.setCell ?_ ?_ _; rotate_left; focus ((try simp) <;> omega)) | (with_reducible refine below_grow ?_ ?_; rotate_left; focus ((try simp) <;> omega)) | (with_reducible refine below_putB ?_ ?_; rotate_left; focus ((try simp) <;> omega)) | with_reducible refine Below.drew ?_ | with_reducible refine below_drewN ?_ | with_reducible assumption | (with_reducible refine below_step (by assumption) ?_ ?_; rotate_left; focus ((try simp) <;> omega))))
    · obtain ⟨k, rfl⟩ : ∃ k : Nat, s = k := ⟨s.toNat, by omega⟩
      have hk : k < n := by omega
      obtain ⟨g', off, c, ev, hg, _, q0, q1⟩ := sl_cells HH.out HL.out k hk
      simp only [Value.slice.injEq, true_and] at ev
      obtain ⟨rfl, rfl⟩ := ev
      have hb : ofB S ((k : Int), g) = ((S.getD k (0, 0)).1 == g) := by
        unfold ofB
        have : ((k : Int) < S.length) := by rw [HL.out]; omega
        simp [this]
      rw [hb]
      clear hb h0 h1
      generalize (S.getD k (0, 0)).1 = x at q0 ⊢
      clear q1
      have og : Old g' w := ⟨hg⟩
      have i1 : (0 : Int) ≤ (k : Int) := by omega
      have i2 : (k : Int) < (n : Int) := by omega
      go_enter Try.func52, Try.ntmps52
      go_wp2_with fail
      refine wp_region_quiet_below (by kernel_rfl) (by kernel_rfl) ?_
      repeat (first | go_big_quiet_step (((fail))) | quiet_step (((fail))))
      refine wpQuiet_nil ?_
      intro _ hw'
      obtain ⟨⟨dq, osq⟩, hw''⟩ := hw'
      subst hw''
      go_wp2_with fail
      refine ret_any ⟨_, by simp [results, Try.results52, go_sem, *]; rfl, ?_⟩ rfl
      exact gives_of rfl (by repeat (first | with_reducible exact Below.refl _ _ | (with_reducible refine Below.alloc ?_ ?_ _; rotate_left; focus ((try simp) <;> omega)) | (with_reducible refine Below.setCell ?_ ?_ _; rotate_left; focus ((try simp) <;> omega)) | (with_reducible refine below_grow ?_ ?_; rotate_left; focus ((try simp) <;> omega)) | (with_reducible refine below_putB ?_ ?_; rotate_left; focus ((try simp) <;> omega)) | with_reducible refine Below.drew ?_ | with_reducible refine below_drewN ?_ | with_reducible assumption | (with_reducible refine below_step (by assumption) ?_ ?_; rotate_left; focus ((try simp) <;> omega))))
end Go.Proofs.Ytjlclpdjblicjaa
