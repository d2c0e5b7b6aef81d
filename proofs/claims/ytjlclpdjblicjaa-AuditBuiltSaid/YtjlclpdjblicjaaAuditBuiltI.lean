/-
  Slots that count as many references as handles are held: what holds of them, with a handle more, less, or other. Plain law. No condition.
-/
import Derived.Test.YtjlclpdjblicjaaAuditPlacesI
namespace Go.Proofs.Ytjlclpdjblicjaa
open Go.RowKit Go.Sort Go.BigFrame
set_option linter.unusedVariables false
/-- As many references as handles, all of them of slots as they stand. -/
structure Bt (S L : List (Int × Int)) : Prop where
  ofs : ∀ x ∈ L, ofB S x = true
  cnt : ∀ i : Nat, i < S.length → (S.getD i (0, 0)).2 = ((L.countP (fun h => h.1 == (i : Int)) : Nat) : Int)
  gen : ∀ i : Nat, i < S.length → 0 ≤ (S.getD i (0, 0)).1 ∧ (S.getD i (0, 0)).1 ≤ 4294967295
theorem Bt.perm {S L M : List (Int × Int)} (h : Bt S L) (p : L.Perm M) : Bt S M :=
  ⟨fun x hx => h.ofs x (p.mem_iff.2 hx), fun i hi => by rw [h.cnt i hi, p.countP_eq], h.gen⟩
theorem ofB_at {S : List (Int × Int)} {x : Int × Int} (h : ofB S x = true) : ∃ k : Nat, x.1 = k ∧ k < S.length ∧ (S.getD k (0, 0)).1 = x.2 := by
  unfold ofB at h
  simp only [Bool.and_eq_true, decide_eq_true_eq, beq_iff_eq] at h
  exact ⟨x.1.toNat, by omega, by omega, h.2.2⟩
theorem ofB_mk {S : List (Int × Int)} {k : Nat} (hk : k < S.length) : ofB S ((k : Int), (S.getD k (0, 0)).1) = true := by
  unfold ofB
  simp
  exact hk
theorem getD_set_at (S : List (Int × Int)) (k : Nat) (x : Int × Int) (hk : k < S.length) : (S.set k x).getD k (0, 0) = x := by
  rw [List.getD_eq_getElem?_getD, List.getElem?_set_self hk]; rfl
theorem getD_set_off (S : List (Int × Int)) (k i : Nat) (x : Int × Int) (h : k ≠ i) : (S.set k x).getD i (0, 0) = S.getD i (0, 0) := by
  rw [List.getD_eq_getElem?_getD, List.getElem?_set_ne h, List.getD_eq_getElem?_getD]
theorem getD_set_gen (S : List (Int × Int)) (k i : Nat) (r : Int) (hk : k < S.length) : ((S.set k ((S.getD k (0, 0)).1, r)).getD i (0, 0)).1 = (S.getD i (0, 0)).1 := by
  by_cases h : k = i
  · subst h; rw [getD_set_at S k _ hk]
  · rw [getD_set_off S k i _ h]
theorem ofB_set (S : List (Int × Int)) (k : Nat) (r : Int) (hk : k < S.length) (x : Int × Int) : ofB (S.set k ((S.getD k (0, 0)).1, r)) x = ofB S x := by
  unfold ofB
  rw [getD_set_gen S k x.1.toNat r hk, List.length_set]
/-- One more handle, counted. -/
theorem Bt.add {S L : List (Int × Int)} (h : Bt S L) (k : Nat) (hk : k < S.length) : Bt (S.set k ((S.getD k (0, 0)).1, (S.getD k (0, 0)).2 + 1)) (((k : Int), (S.getD k (0, 0)).1) :: L) := by
  refine ⟨fun x hx => ?_, fun i hi => ?_, fun i hi => ?_⟩
  · rw [ofB_set S k _ hk]
    rcases List.mem_cons.1 hx with e | e
    · subst e; exact ofB_mk hk
    · exact h.ofs x e
  · rw [List.length_set] at hi
    rw [List.countP_cons]
    by_cases e : k = i
    · subst e
      rw [getD_set_at S k _ hk]
      show (S.getD k (0, 0)).2 + 1 = _
      rw [h.cnt k hk]
      simp
    · rw [getD_set_off S k i _ e, h.cnt i hi]
      have : ((k : Int) == (i : Int)) = false := by rw [beq_eq_false_iff_ne]; omega
      simp [this]
  · rw [List.length_set] at hi
    rw [getD_set_gen S k i _ hk]
    exact h.gen i hi
theorem cnt_all (S L : List (Int × Int)) (n i : Nat) (hi : i < n) : (cntL S L n L.length).getD i 0 = ((L.countP (fun h => ofB S h && (h.1 == (i : Int))) : Nat) : Int) := by
  rw [cntL_getD S L n L.length i hi, List.take_length]
theorem countP_of {S L : List (Int × Int)} (h : ∀ x ∈ L, ofB S x = true) (i : Nat) : L.countP (fun h => ofB S h && (h.1 == (i : Int))) = L.countP (fun h => h.1 == (i : Int)) := by
  apply List.countP_congr
  intro x hx
  rw [h x hx]; simp
theorem Bt.holds {S L : List (Int × Int)} (h : Bt S L) : holdsB S L S.length = true := by
  unfold holdsB cntB
  rw [Bool.and_eq_true, List.all_eq_true, List.all_eq_true]
  refine ⟨h.ofs, fun i hi => ?_⟩
  have hi' : i < S.length := by simpa using hi
  rw [cnt_all S L S.length i hi', countP_of h.ofs, h.cnt i hi']
  simp
theorem Bt.leaks {S L : List (Int × Int)} (h : Bt S L) : leaksL S L S.length S.length = [] := by
  unfold leaksL
  rw [List.map_eq_nil_iff, List.filter_eq_nil_iff]
  intro i hi
  have hi' : i < S.length := by simpa using hi
  rw [cnt_all S L S.length i hi', countP_of h.ofs, h.cnt i hi']
  simp
theorem holds_no {S L : List (Int × Int)} {n : Nat} (i : Nat) (hi : i < n) (h : (cntL S L n L.length).getD i 0 ≠ (S.getD i (0, 0)).2) : holdsB S L n = false := by
  unfold holdsB
  rw [cntB_no S L n i hi (by rw [beq_eq_false_iff_ne]; exact h), Bool.and_false]
theorem holds_no' {S L : List (Int × Int)} {n : Nat} {x : Int × Int} (hx : x ∈ L) (h : ofB S x = false) : holdsB S L n = false := by
  unfold holdsB
  have : L.all (ofB S) = false := by rw [List.all_eq_false]; exact ⟨x, hx, by rw [h]; simp⟩
  rw [this, Bool.false_and]
/-- One handle too many. -/
theorem Bt.stray {S L M : List (Int × Int)} (h : Bt S L) (x : Int × Int) (p : M.Perm (x :: L)) : holdsB S M S.length = false := by
  rw [holdsB_perm S p]
  cases e : ofB S x with
  | false => exact holds_no' (List.mem_cons_self ..) e
  | true =>
    obtain ⟨k, hk, hk', _⟩ := ofB_at e
    refine holds_no k hk' ?_
    rw [cnt_all S (x :: L) S.length k hk', List.countP_cons, countP_of h.ofs, h.cnt k hk', e, hk]
    simp
    omega
theorem filter_one (n s : Nat) (hs : s < n) (f : Nat → Bool) (hf : ∀ i, i < n → f i = (i == s)) : (List.range n).filter f = [s] := by
  have e : (List.range n).filter f = (List.range n).filter (· == s) := List.filter_congr fun i hi => hf i (by simpa using hi)
  have g : ∀ m : Nat, (List.range m).filter (· == s) = if s < m then [s] else [] := by
    intro m
    induction m with
    | zero => rfl
    | succ m ih =>
      rw [List.range_succ, List.filter_append, ih]
      by_cases h1 : s < m
      · have : (m == s) = false := by rw [beq_eq_false_iff_ne]; omega
        rw [if_pos h1, if_pos (by omega)]; simp [this]
      · by_cases h2 : s = m
        · subst h2; rw [if_neg h1, if_pos (by omega)]; simp
        · have : (m == s) = false := by rw [beq_eq_false_iff_ne]; omega
          rw [if_neg h1, if_neg (by omega)]; simp [this]
  rw [e, g, if_pos hs]
/-- One handle too few, or another in its place that is of no slot as it stands. -/
theorem Bt.less {S L M N : List (Int × Int)} (h : Bt S L) (x : Int × Int) (p : L.Perm (x :: M)) (hc : ∀ i : Nat, N.countP (fun h => ofB S h && (h.1 == (i : Int))) = M.countP (fun h => ofB S h && (h.1 == (i : Int)))) :
    holdsB S N S.length = false ∧ leaksL S N S.length S.length = [x.1] := by
  obtain ⟨k, hk, hk', _⟩ := ofB_at (h.ofs x (p.mem_iff.2 (List.mem_cons_self ..)))
  have hM : ∀ y ∈ M, ofB S y = true := fun y hy => h.ofs y (p.mem_iff.2 (List.mem_cons_of_mem _ hy))
  have hc' : ∀ i : Nat, i < S.length → (cntL S N S.length N.length).getD i 0 = ((M.countP (fun h => h.1 == (i : Int)) : Nat) : Int) := fun i hi => by
    rw [cnt_all S N S.length i hi, hc, countP_of hM]
  have hs : ∀ i : Nat, i < S.length → (S.getD i (0, 0)).2 = ((M.countP (fun h => h.1 == (i : Int)) : Nat) : Int) + (if i = k then 1 else 0) := fun i hi => by
    rw [h.cnt i hi, p.countP_eq, List.countP_cons, hk]
    by_cases e : i = k
    · subst e; simp
    · have : ((k : Int) == (i : Int)) = false := by rw [beq_eq_false_iff_ne]; omega
      simp [this, e]
  constructor
  · refine holds_no k hk' ?_
    rw [hc' k hk', hs k hk', if_pos rfl]
    omega
  · unfold leaksL
    rw [filter_one S.length k hk' _ (fun i hi => ?_), List.map_cons, List.map_nil, hk]
    rw [hc' i hi, hs i hi]
    by_cases e : i = k
    · subst e; simp; omega
    · rw [if_neg e]
      have : (i == k) = false := by rw [beq_eq_false_iff_ne]; exact e
      rw [this, decide_eq_false_iff_not]
      omega
/-- The k-th handle taken out. -/
theorem out_perm (R W H : List (Int × Int)) (k : Nat) (hk : k < R.length) : (R ++ W ++ H).Perm (R.getD k (0, 0) :: (R.take k ++ R.drop (k + 1) ++ W ++ H)) := by
  have e : R = R.take k ++ R.getD k (0, 0) :: R.drop (k + 1) := by
    rw [List.getD_eq_getElem?_getD, List.getElem?_eq_getElem hk, Option.getD_some, List.getElem_cons_drop, List.take_append_drop]
  conv => lhs; rw [e]
  simp only [List.append_assoc, List.cons_append]
  exact List.perm_middle
theorem set_perm (R W H : List (Int × Int)) (k : Nat) (y : Int × Int) (hk : k < R.length) : (R.set k y ++ W ++ H).Perm (y :: (R.take k ++ R.drop (k + 1) ++ W ++ H)) := by
  rw [List.set_eq_take_append_cons_drop, if_pos hk]
  simp only [List.append_assoc, List.cons_append]
  exact List.perm_middle
theorem Bt.out {S R W H : List (Int × Int)} (h : Bt S (R ++ W ++ H)) (k : Nat) (hk : k < R.length) :
    holdsB S (R.take k ++ R.drop (k + 1) ++ W ++ H) S.length = false ∧ leaksL S (R.take k ++ R.drop (k + 1) ++ W ++ H) S.length S.length = [(R.getD k (0, 0)).1] :=
  h.less _ (out_perm R W H k hk) fun _ => rfl
theorem Bt.other {S R W H : List (Int × Int)} (h : Bt S (R ++ W ++ H)) (k : Nat) (hk : k < R.length) (g : Int) (hg : g ≠ (R.getD k (0, 0)).2) :
    holdsB S (R.set k ((R.getD k (0, 0)).1, g) ++ W ++ H) S.length = false ∧ leaksL S (R.set k ((R.getD k (0, 0)).1, g) ++ W ++ H) S.length S.length = [(R.getD k (0, 0)).1] := by
  have hm : R.getD k (0, 0) ∈ R ++ W ++ H := by
    rw [List.getD_eq_getElem?_getD, List.getElem?_eq_getElem hk]
    exact List.mem_append_left _ (List.mem_append_left _ (List.getElem_mem hk))
  have hno : ofB S ((R.getD k (0, 0)).1, g) = false := by
    obtain ⟨s, e1, e2, e3⟩ := ofB_at (h.ofs _ hm)
    unfold ofB
    have : (S.getD ((R.getD k (0, 0)).1).toNat (0, 0)).1 = (R.getD k (0, 0)).2 := by rw [e1]; exact e3
    rw [this]
    have : ((R.getD k (0, 0)).2 == g) = false := by rw [beq_eq_false_iff_ne]; exact Ne.symm hg
    rw [this]; simp
  refine h.less _ (out_perm R W H k hk) fun i => ?_
  rw [(set_perm R W H k _ hk).countP_eq, List.countP_cons, hno]
  simp
theorem Bt.more {S R W H : List (Int × Int)} (h : Bt S (R ++ W ++ H)) (x : Int × Int) : holdsB S (R ++ (W ++ [x]) ++ H) S.length = false := by
  refine h.stray x ?_
  rw [← List.append_assoc R W [x], List.append_assoc (R ++ W) [x] H]
  exact List.perm_middle
theorem Bt.refs {S L : List (Int × Int)} (h : Bt S L) (i : Nat) (hi : i < S.length) : 0 ≤ (S.getD i (0, 0)).2 ∧ (S.getD i (0, 0)).2 ≤ L.length := by
  have := List.countP_le_length (p := fun h : Int × Int => h.1 == (i : Int)) (l := L)
  rw [h.cnt i hi]
  omega
theorem Bt.put1 {S R W H : List (Int × Int)} (h : Bt S (R ++ W ++ H)) (k : Nat) (hk : k < S.length) : Bt (S.set k ((S.getD k (0, 0)).1, (S.getD k (0, 0)).2 + 1)) (R ++ [((k : Int), (S.getD k (0, 0)).1)] ++ W ++ H) := by
  refine (h.add k hk).perm ?_
  rw [List.append_assoc R W H, List.append_assoc (R ++ _) W H, List.append_assoc R]
  exact List.perm_middle.symm
theorem Bt.put2 {S R W H : List (Int × Int)} (h : Bt S (R ++ W ++ H)) (k : Nat) (hk : k < S.length) : Bt (S.set k ((S.getD k (0, 0)).1, (S.getD k (0, 0)).2 + 1)) (R ++ (W ++ [((k : Int), (S.getD k (0, 0)).1)]) ++ H) := by
  refine (h.add k hk).perm ?_
  rw [← List.append_assoc R W, List.append_assoc (R ++ W) _ H]
  exact List.perm_middle.symm
theorem Bt.put3 {S R W H : List (Int × Int)} (h : Bt S (R ++ W ++ H)) (k : Nat) (hk : k < S.length) : Bt (S.set k ((S.getD k (0, 0)).1, (S.getD k (0, 0)).2 + 1)) (R ++ W ++ (H ++ [((k : Int), (S.getD k (0, 0)).1)])) := by
  refine (h.add k hk).perm ?_
  rw [← List.append_assoc (R ++ W) H]
  exact (List.perm_append_singleton _ _).symm
/-- The first slots, with no references. -/
def newS (G : List Int) (k : Nat) : List (Int × Int) := (G.take k).map fun g => (g, 0)
theorem newS_len (G : List Int) (k : Nat) (h : k ≤ G.length) : (newS G k).length = k := by simp [newS]; omega
theorem newS_succ (G : List Int) (k : Nat) (h : k < G.length) : newS G (k + 1) = newS G k ++ [(G.getD k 0, 0)] := by
  unfold newS
  rw [List.take_succ_eq_append_getElem h, List.map_append, List.getD_eq_getElem?_getD, List.getElem?_eq_getElem h]; rfl
theorem newS_bt (G : List Int) (hG : ∀ g ∈ G, 0 ≤ g ∧ g ≤ 4294967295) (k : Nat) (h : k ≤ G.length) : Bt (newS G k) [] := by
  have hx : ∀ i : Nat, i < (newS G k).length → (newS G k).getD i (0, 0) = (G.getD i 0, 0) := fun i hi => by
    rw [newS_len G k h] at hi
    unfold newS
    rw [List.getD_eq_getElem?_getD, List.getElem?_map, List.getElem?_take_of_lt hi, List.getD_eq_getElem?_getD, List.getElem?_eq_getElem (by omega)]; rfl
  refine ⟨fun x hx => by simp at hx, fun i hi => by rw [hx i hi]; simp, fun i hi => ?_⟩
  rw [hx i hi]
  rw [newS_len G k h] at hi
  refine hG _ ?_
  rw [List.getD_eq_getElem?_getD, List.getElem?_eq_getElem (by omega)]
  exact List.getElem_mem _
end Go.Proofs.Ytjlclpdjblicjaa
