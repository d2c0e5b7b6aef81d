/-
  Where each pair of Pack begins, and that none could have taken the first number of the next. No condition but that the numbers fit their kinds.
-/
import Derived.Test.YtoefekojjagjdaaPackLaw
namespace Go.Proofs.Ytoefekojjagjdaa
open Go.RowKit Go.Sort Go.BigFrame
set_option linter.unusedVariables false
/-- Where the i-th pair's numbers begin. -/
def at_ (l : List (Int × Int)) (i : Nat) : Nat := (expand (l.take i)).length
theorem at_zero (l : List (Int × Int)) : at_ l 0 = 0 := by simp [at_, expand]
theorem at_succ (l : List (Int × Int)) (i : Nat) (h : i < l.length) : at_ l (i + 1) = at_ l i + (part l[i].1 l[i].2 16).length := by
  unfold at_
  rw [List.take_succ_eq_append_getElem h, expand_snoc, List.length_append]
theorem at_all (l : List (Int × Int)) : at_ l l.length = (expand l).length := by unfold at_; rw [List.take_length]
theorem part_pos (p b : Int) (i : Nat) : 1 ≤ (part p b i).length := by simp [part]
theorem expand_app (a b : List (Int × Int)) : expand (a ++ b) = expand a ++ expand b := by unfold expand; rw [List.flatMap_append]
theorem expand_cons (x : Int × Int) (r : List (Int × Int)) : expand (x :: r) = part x.1 x.2 16 ++ expand r := by unfold expand; rw [List.flatMap_cons]
theorem expand_split (l : List (Int × Int)) (i : Nat) (h : i < l.length) : ∃ r, expand l = expand (l.take i) ++ (part l[i].1 l[i].2 16 ++ r) := by
  refine ⟨expand (l.drop (i + 1)), ?_⟩
  have : l = l.take i ++ (l[i] :: l.drop (i + 1)) := by rw [← List.drop_eq_getElem_cons h, List.take_append_drop]
  have e := congrArg expand this
  rw [expand_app, expand_cons] at e
  exact e
/-- The i-th pair begins with its own number. -/
theorem at_head {m : List Int} (hm : fits16 m) (i : Nat) (h : i < (pack m).length) : at_ (pack m) i + (part (pack m)[i].1 (pack m)[i].2 16).length ≤ m.length ∧ m.getD (at_ (pack m) i) 0 = (pack m)[i].1 := by
  obtain ⟨r, hr⟩ := expand_split (pack m) i h
  rw [expand_pack_all hm] at hr
  constructor
  · have := congrArg List.length hr
    simp only [List.length_append] at this
    unfold at_
    omega
  · have e := congrArg (fun z : List Int => z.getD (at_ (pack m) i) 0) hr
    refine e.trans ?_
    rw [List.getD_eq_getElem?_getD]
    unfold at_
    rw [List.getElem?_append_right (Nat.le_refl _), Nat.sub_self]
    simp [part]
theorem at_le (l : List (Int × Int)) (i j : Nat) (h : i ≤ j) : at_ l i ≤ at_ l j := by
  unfold at_
  have e : l.take i = (l.take j).take i := by rw [List.take_take, Nat.min_eq_left h]
  rw [e]
  have : expand (l.take j) = expand ((l.take j).take i) ++ expand ((l.take j).drop i) := by
    have e := congrArg expand (List.take_append_drop i (l.take j)).symm
    rw [expand_app] at e
    exact e
  rw [this, List.length_append]
  omega
/-- No pair could have taken the next one's first number. -/
def apart (m : List Int) (l : List (Int × Int)) : Prop := ∀ i, 0 < i → i < l.length → joins (l.getD (i - 1) (0, 0)).1 (m.getD (at_ l i - 1) 0) (m.getD (at_ l i) 0) = false
theorem at_append (l r : List (Int × Int)) (i : Nat) (h : i ≤ l.length) : at_ (l ++ r) i = at_ l i := by
  unfold at_; rw [List.take_append_of_le_length h]
theorem packTo_apart {m : List Int} (hm : fits16 m) (k : Nat) (hk : k ≤ m.length) : apart m (packTo m k) := by
  induction k with
  | zero => intro i _ h; simp [packTo] at h
  | succ k ih =>
    rcases Nat.eq_zero_or_pos k with rfl | h0
    · intro i h1 h; rw [packTo_one] at h; simp at h; omega
    · obtain ⟨init, x, h⟩ := packTo_last m k h0
      have ih' := ih (by omega)
      have hat : at_ (init ++ [x]) (init.length + 1) = k := by
        have := at_all (init ++ [x])
        rw [← h, expand_pack hm k (by omega), h, List.length_append, List.length_singleton] at this
        rw [this]
        simp; omega
      rw [h] at ih'
      rw [packTo_step h]
      split
      · intro i h1 h2
        simp only [List.length_append, List.length_singleton] at h2
        have := ih' i h1 (by simp; omega)
        rw [at_append _ _ _ (by omega)] at this ⊢
        have e : ∀ y : Int × Int, ((init ++ [y]).getD (i - 1) (0, 0)) = init.getD (i - 1) (0, 0) := by
          intro y
          rw [List.getD_eq_getElem?_getD, List.getD_eq_getElem?_getD, List.getElem?_append_left (by omega)]
        rw [e] at this ⊢
        exact this
      · rename_i hj
        intro i h1 h2
        simp only [List.length_append, List.length_singleton] at h2
        by_cases hi : i = init.length + 1
        · subst hi
          rw [at_append _ _ _ (by simp), hat, Nat.add_sub_cancel]
          have e : ((init ++ [x] ++ [(m.getD k 0, 0)]).getD init.length (0, 0)) = x := by
            rw [List.getD_eq_getElem?_getD]; simp
          rw [e]
          simpa using hj
        · have := ih' i h1 (by simp; omega)
          rw [at_append _ _ _ (by simp; omega)]
          have e : ((init ++ [x] ++ [(m.getD k 0, 0)]).getD (i - 1) (0, 0)) = (init ++ [x]).getD (i - 1) (0, 0) := by
            rw [List.getD_eq_getElem?_getD, List.getElem?_append_left (by simp; omega), ← List.getD_eq_getElem?_getD]
          rw [e]
          exact this
theorem pack_apart {m : List Int} (hm : fits16 m) : apart m (pack m) := packTo_apart hm m.length (Nat.le_refl _)
end Go.Proofs.Ytoefekojjagjdaa
