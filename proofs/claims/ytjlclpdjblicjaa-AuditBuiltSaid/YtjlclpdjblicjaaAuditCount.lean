/-
  all and Counted, by their contracts: how many handles of each slot are held. No condition but that slots and handles are not too many.
-/
import Derived.Test.YtjlclpdjblicjaaAuditCat
import Derived.Laws.OwnMore
namespace Go.Proofs.Ytjlclpdjblicjaa
open Go.RowKit Go.Sort Go.BigFrame
set_option linter.unusedVariables false
attribute [local go_sem ↓] Go.wp_at_zero Go.wp_at_succ
/-- A snapshot: its slots, and the handles of its three places. -/
structure SnapW (w : World) (sv rv wv hv : Value) (n nr nw nh : Nat) (S R Wr H : List (Int × Int)) : Prop where
  s : Has w 2 sv n (sls S)
  r : Has w 2 rv nr (hds R)
  p : Has w 2 wv nw (hds Wr)
  h : Has w 2 hv nh (hds H)
  ls : S.length = n
  lr : R.length = nr
  lw : Wr.length = nw
  lh : H.length = nh
  bs : n ≤ 10000000
  br : nr ≤ 10000000
  bw : nw ≤ 10000000
  bh : nh ≤ 10000000
theorem SnapW.keep {w w' : World} {sv rv wv hv : Value} {n nr nw nh : Nat} {S R Wr H : List (Int × Int)} (h : SnapW w sv rv wv hv n nr nw nh S R Wr H) (k : Below w.heap.size w w') : SnapW w' sv rv wv hv n nr nw nh S R Wr H :=
  ⟨h.s.keep k, h.r.keep k, h.p.keep k, h.h.keep k, h.ls, h.lr, h.lw, h.lh, h.bs, h.br, h.bw, h.bh⟩
theorem Has.one {w : World} {size n : Nat} {v : Value} {xs : List Value} (h : Has w size v n xs) : v.oneCell' = true := by
  obtain ⟨_, ao, cap, rfl, _⟩ := h
  rfl
def snapV (sv rv wv hv : Value) : Value := .agg #[sv, rv, wv, hv]
theorem allS {sv rv wv hv : Value} {n nr nw nh : Nat} {S R Wr H : List (Int × Int)} {w : World} (h : SnapW w sv rv wv hv n nr nw nh S R Wr H) :
    Calls Try.prog 51 #[snapV sv rv wv hv] w fun e w' => ∃ v, e = .returned v ∧ Line w' w.heap.size 2 v (nr + nw + nh) (hds (R ++ Wr ++ H)) ∧ Below w.heap.size w w' := by
  have kc := fun (w' : World) (b : Nat) (k : Below w.heap.size w w') (hb : BlkIs w' b #[rv, wv, hv] 69) => catR hb (h.r.keep k) (h.p.keep k) (h.h.keep k) h.br h.bw h.bh
  have KC := Lib.hid kc
  have o1 := h.s.one
  have o2 := h.r.one
  have o3 := h.p.one
  have o4 := h.h.one
  obtain ⟨sa, sc, rfl, _, _⟩ := h.s.shape
  obtain ⟨ra, rc, rfl, _, _⟩ := h.r.shape
  obtain ⟨wa, wc, rfl, _, _⟩ := h.p.shape
  obtain ⟨ha, hc, rfl, _, _⟩ := h.h.shape
  clear kc h
  simp only [snapV]
  go_enter Try.func51, Try.ntmps51
  go_wp2_with fail
  refine (KC.out _ _ (by repeat (first | with_reducible exact Below.refl _ _ | (with_reducible refine Below.alloc ?_ ?_ _; rotate_left; focus ((try simp) <;> omega)) | (with_reducible refine Below.setCell ?_ ?_ _; rotate_left; focus ((try simp) <;> omega)) | (with_reducible refine below_grow ?_ ?_; rotate_left; focus ((try simp) <;> omega)) | (with_reducible refine below_putB ?_ ?_; rotate_left; focus ((try simp) <;> omega)) | with_reducible refine Below.drew ?_ | with_reducible refine below_drewN ?_ | with_reducible assumption | (with_reducible refine below_step (by assumption) ?_ ?_; rotate_left; focus ((try simp) <;> omega)))) (by infer_instance)).mono ?_; rintro e w2 ⟨v2, rfl, hL2, hb2⟩
  have HL2 := Lib.hid hL2
  clear hL2
  go_wp2_with fail
  refine ret_any ⟨_, by simp [results, Try.results51, go_sem, *]; rfl, ?_⟩ rfl
  exact ⟨_, rfl, HL2.out.weak (by simp; omega), (by repeat (first | with_reducible exact Below.refl _ _ | (with_reducible refine Below.alloc ?_ ?_ _; rotate_left; focus ((try simp) <;> omega)) | (with_reducible refine Below.setCell ?_ ?_ _; rotate_left; focus ((try simp) <;> omega)) | (with_reducible refine below_grow ?_ ?_; rotate_left; focus ((try simp) <;> omega)) | (with_reducible refine below_putB ?_ ?_; rotate_left; focus ((try simp) <;> omega)) | with_reducible refine Below.drew ?_ | with_reducible refine below_drewN ?_ | with_reducible assumption | (with_reducible refine below_step (by assumption) ?_ ?_; rotate_left; focus ((try simp) <;> omega))))⟩
def ints (l : List Int) : List Value := l.map (Value.int .i64 ·)
theorem ints_len (l : List Int) : (ints l).length = l.length := by simp [ints]
/-- How many of the first k handles are of each slot. -/
def cntL (S L : List (Int × Int)) (n k : Nat) : List Int := (List.range n).map fun i : Nat => (((L.take k).countP (fun h => ofB S h && (h.1 == (i : Int))) : Nat) : Int)
theorem cntL_len (S L : List (Int × Int)) (n k : Nat) : (cntL S L n k).length = n := by simp [cntL]
theorem cntL_getD (S L : List (Int × Int)) (n k i : Nat) (hi : i < n) : (cntL S L n k).getD i 0 = (((L.take k).countP (fun h => ofB S h && (h.1 == (i : Int))) : Nat) : Int) := by
  unfold cntL
  rw [List.getD_eq_getElem?_getD, List.getElem?_map, List.getElem?_range hi]; rfl
theorem cntL_zero (S L : List (Int × Int)) (n : Nat) : cntL S L n 0 = List.replicate n 0 := by
  apply List.ext_getElem
  · simp [cntL]
  · intro i h1 h2; simp [cntL]
theorem cntL_no (S L : List (Int × Int)) (n k : Nat) (hk : k < L.length) (h : ofB S (L.getD k (0, 0)) = false) : cntL S L n (k + 1) = cntL S L n k := by
  have e : L.take (k + 1) = L.take k ++ [L.getD k (0, 0)] := by
    rw [List.take_succ_eq_append_getElem hk, List.getD_eq_getElem?_getD, List.getElem?_eq_getElem hk]; rfl
  unfold cntL
  rw [e]
  apply List.map_congr_left
  intro i _
  rw [List.countP_append, List.countP_singleton, h]; simp
theorem cntL_yes (S L : List (Int × Int)) (n k s : Nat) (hk : k < L.length) (h : ofB S (L.getD k (0, 0)) = true) (hs : (L.getD k (0, 0)).1 = s) (hn : s < n) :
    cntL S L n (k + 1) = (cntL S L n k).set s ((cntL S L n k).getD s 0 + 1) := by
  have e : L.take (k + 1) = L.take k ++ [L.getD k (0, 0)] := by
    rw [List.take_succ_eq_append_getElem hk, List.getD_eq_getElem?_getD, List.getElem?_eq_getElem hk]; rfl
  apply List.ext_getElem
  · simp [cntL]
  · intro i h1 h2
    have hi : i < n := by simpa [cntL] using h1
    rw [List.getElem_set]
    by_cases hx : s = i
    · subst hx
      rw [if_pos rfl, cntL_getD S L n k s hn]
      simp only [cntL, List.getElem_map, List.getElem_range]
      rw [e, List.countP_append, List.countP_singleton, h, hs]
      simp
    · rw [if_neg hx]
      simp only [cntL, List.getElem_map, List.getElem_range]
      rw [e, List.countP_append, List.countP_singleton, h, hs]
      have : ((s : Int) == (i : Int)) = false := by rw [beq_eq_false_iff_ne]; omega
      rw [this]; simp
theorem cntL_bd (S L : List (Int × Int)) (n k i : Nat) : 0 ≤ (cntL S L n k).getD i 0 ∧ (cntL S L n k).getD i 0 ≤ L.length := by
  by_cases hi : i < n
  · rw [cntL_getD S L n k i hi]
    have h1 := List.countP_le_length (p := fun h : Int × Int => ofB S h && (h.1 == (i : Int))) (l := L.take k)
    have h2 : (L.take k).length ≤ L.length := by rw [List.length_take]; omega
    omega
  · rw [List.getD_eq_getElem?_getD, List.getElem?_eq_none (by rw [cntL_len]; omega)]
    simp
theorem ints_set (l : List Int) (s : Nat) (x : Int) (h : s < l.length) : (ints l).take s ++ [.int .i64 x] ++ (ints l).drop (s + 1) = ints (l.set s x) := by
  unfold ints
  rw [List.map_set, List.set_eq_take_append_cons_drop, if_pos (by simpa using h)]
  simp
theorem ints_get (l : List Int) (s : Nat) (h : s < l.length) : (ints l)[s]? = some (.int .i64 (l.getD s 0)) := by
  unfold ints
  rw [List.getElem?_map, List.getD_eq_getElem?_getD, List.getElem?_eq_getElem h]; rfl
theorem made_ints (n : Nat) : (madeCells (Value.int .i64 0).cells (n * 1)).toList = ints (List.replicate n 0) := by
  apply List.ext_getElem
  · simp [madeCells, ints]
  · intro i h1 h2
    have hc : (Value.int .i64 0).cells = #[Value.int .i64 0] := rfl
    simp [madeCells, ints, hc, Nat.mod_one]
theorem info3 : (Try.prog.info? 3).map (fun i => (i.zero, i.size, i.bytes)) = some (some (.int .i64 0), 1, 8) := by kernel_rfl
theorem ofB_slot {S : List (Int × Int)} {h : Int × Int} (e : ofB S h = true) : ∃ s : Nat, h.1 = s ∧ s < S.length := by
  unfold ofB at e
  simp only [Bool.and_eq_true, decide_eq_true_eq] at e
  exact ⟨h.1.toNat, by omega, by omega⟩
set_option maxRecDepth 100000 in
set_option maxHeartbeats 4000000 in
theorem countedS {sv rv wv hv : Value} {n nr nw nh : Nat} {S R Wr H : List (Int × Int)} {w : World} (h : SnapW w sv rv wv hv n nr nw nh S R Wr H) :
    Calls Try.prog 38 #[snapV sv rv wv hv] w fun e w' => ∃ v, e = .returned v ∧ Line w' w.heap.size 1 v n (ints (cntL S (R ++ Wr ++ H) n (nr + nw + nh))) ∧ Below w.heap.size w w' := by
  have ka := fun (w' : World) (k : Below w.heap.size w w') => allS (h.keep k)
  have ko := fun (w' : World) (s g : Int) (k : Below w.heap.size w w') => ofH (s := s) (g := g) (h.keep k).s h.ls (by have := h.bs; omega) h.r.one h.p.one h.h.one
  have hbs := h.bs
  have hL : (R ++ Wr ++ H).length = nr + nw + nh := by rw [List.length_append, List.length_append, h.lr, h.lw, h.lh]
  have hN : nr + nw + nh ≤ 30000000 := by have := h.br; have := h.bw; have := h.bh; omega
  have hS := h.ls
  obtain ⟨L, hLL⟩ : ∃ L, L = R ++ Wr ++ H := ⟨_, rfl⟩
  obtain ⟨N, hNN⟩ : ∃ N, N = nr + nw + nh := ⟨_, rfl⟩
  unfold snapV at ka ⊢
  rw [← hLL] at hL ka ⊢
  rw [← hNN] at hL hN ka ⊢
  have KA := Lib.hid ka
  have KO := Lib.hid ko
  have HL := Lib.hid hL
  have HS := Lib.hid hS
  have o1 := h.s.one
  have o2 := h.r.one
  have o3 := h.p.one
  have o4 := h.h.one
  obtain ⟨sa, sc, rfl, _, _⟩ := h.s.shape
  obtain ⟨ra, rc, rfl, _, _⟩ := h.r.shape
  obtain ⟨wa, wc, rfl, _, _⟩ := h.p.shape
  obtain ⟨ha, hc, rfl, _, _⟩ := h.h.shape
  obtain ⟨i0, hi, hz0, hz1, hz2⟩ := info_parts info3
  obtain ⟨W2, hrun, hown, hgrow⟩ := run_make_full (P := Try.prog) (w.alloc (.cells #[.slice sa n sc, .slice ra nr rc, .slice wa nw wc, .slice ha nh hc] 71)) w.heap.size 75 3 i0 _ 1 Try.underlying75 hi hz0 hz1 .i64 .i64 n (by rw [hz2]; omega) (by unfold maxLen; omega) (by simp)
  rw [made_ints, ← cntL_zero S L n] at hown
  have hB2 : RowKit.Below (w.alloc (.cells #[.slice sa n sc, .slice ra nr rc, .slice wa nw wc, .slice ha nh hc] 71)).heap.size (w.alloc (.cells #[.slice sa n sc, .slice ra nr rc, .slice wa nw wc, .slice ha nh hc] 71)) W2 := RowKit.Below.grown (Below.refl _ _) hgrow (Nat.le_refl _) (fun q hq => by simp at hq)
  have hW2 : RowKit.Below w.heap.size w W2 := ((Below.refl w.heap.size w).alloc (Nat.le_refl _) _).trans (hB2.mono (by simp))
  have hl2 : Line W2 w.heap.size 1 _ n _ := Line.of_own hown
  have hz2' : w.heap.size + 1 < W2.heap.size := by have := (hl2.lt rfl).2; simpa using this
  have bx : BlkIs W2 w.heap.size #[.slice sa n sc, .slice ra nr rc, .slice wa nw wc, .slice ha nh hc] 71 := ⟨by rw [hB2.block w.heap.size (by simp)]; exact heap_alloc_new w _⟩
  have HLN := Lib.hid hl2
  have HW2 := Lib.hid hW2
  clear ka ko h hLL hNN hL hS hi hz0 hz1 hz2 hown hgrow hB2 hW2 hl2
  go_enter Try.func38, Try.ntmps38
  go_wp2_with fail
  refine (KA.out _ HW2.out).mono ?_; rintro e w3 ⟨v3, rfl, hL3, hb3⟩
  have hb3s := hb3.size
  have h3 : RowKit.Below w.heap.size w w3 := HW2.out.trans (hb3.mono (by omega))
  have ha3 : After _ w3 := ⟨hb3⟩
  have bx3 : BlkIs w3 w.heap.size #[.slice sa n sc, .slice ra nr rc, .slice wa nw wc, .slice ha nh hc] 71 := inferInstance
  have HL3 := Lib.hid hL3
  have HO3 := Lib.hid (HLN.out.keep hb3)
  obtain ⟨a3, c3, rfl, _, _⟩ := hL3.shape
  clear hL3
  simp only [World.size_alloc] at HO3 ⊢
  go_wp2_with fail
  go_loopw [13] (fun s13 wr => ∃ k : Nat, k ≤ N ∧ s13 = .int .i64 k ∧ BlkIs wr w.heap.size #[.slice sa n sc, .slice ra nr rc, .slice wa nw wc, .slice ha nh hc] 71 ∧ Line wr w.heap.size 1 (.slice (some ⟨w.heap.size + 1, 0, none⟩) n n) n (ints (cntL S L n k)) ∧ Line wr W2.heap.size 2 (.slice a3 N c3) N (hds L) ∧ Below w.heap.size w wr) (fun i _ => N - (intOf i).toNat)
  case atStart => exact ⟨0, by omega, rfl, bx3, HO3.out, HL3.out, h3⟩
  case round =>
    clear bx bx3 ha3
    obtain ⟨k, hk, rfl, bx, hO, hV, hbel⟩ := hrel
    have hbls := hbel.size
    have HO := Lib.hid hO
    have HV := Lib.hid hV
    by_cases hlt : k < N
    · obtain ⟨g, off, c, ev, hg, _, p0, p1⟩ := hd_cells (Has.of_line hV) HL.out k hlt
      simp only [Value.slice.injEq, true_and] at ev
      obtain ⟨rfl, rfl⟩ := ev
      have og : Old g wr := ⟨hg⟩
      have hkL : k < L.length := by rw [HL.out]; exact hlt
      have hno := cntL_no S L n k hkL
      have hyes := fun s hs hn hb => cntL_yes S L n k s hkL hb hs hn
      have hcb := fun s => cntL_bd S L n k s
      obtain ⟨⟨s, gn⟩, hx⟩ : ∃ x, x = L.getD k (0, 0) := ⟨_, rfl⟩
      rw [← hx] at p0 p1 hno hyes
      dsimp only at p0 p1 hyes
      have HNO := Lib.hid hno
      have HYES := Lib.hid hyes
      have HCB := Lib.hid hcb
      have i3 : (k : Int) < (N : Int) := by omega
      have i4 : (0 : Int) ≤ (k : Int) := by omega
      clear hO hV hkL hno hyes hcb hx
      cases hof : ofB S (s, gn)
      · have ko := KO.out
        have HOF := Lib.hid hof
        go_wp2_with fail
        refine (ko _ s gn (by repeat (first | with_reducible exact Below.refl _ _ | (with_reducible refine Below.alloc ?_ ?_ _; rotate_left; focus ((try simp) <;> omega)) | (with_reducible refine Below.setCell ?_ ?_ _; rotate_left; focus ((try simp) <;> omega)) | (with_reducible refine below_grow ?_ ?_; rotate_left; focus ((try simp) <;> omega)) | (with_reducible refine below_putB ?_ ?_; rotate_left; focus ((try simp) <;> omega)) | with_reducible refine Below.drew ?_ | with_reducible refine below_drewN ?_ | with_reducible assumption | (with_reducible refine below_step (by assumption) ?_ ?_; rotate_left; focus ((try simp) <;> omega))))).mono ?_; rintro e w4 ⟨rfl, hb4⟩; have ha4 : After _ w4 := ⟨hb4⟩; have hz4 := hb4.size; try simp at hz4
        rw [hof]
        clear hof ko
        go_wp2_with fail
        go_roundw
        case rel => exact ⟨k + 1, by omega, by go_num, by infer_instance, by rw [HNO.out HOF.out]; exact HO.out.keep (by repeat (first | with_reducible exact Below.refl _ _ | (with_reducible refine Below.alloc ?_ ?_ _; rotate_left; focus ((try simp) <;> omega)) | (with_reducible refine Below.setCell ?_ ?_ _; rotate_left; focus ((try simp) <;> omega)) | (with_reducible refine below_grow ?_ ?_; rotate_left; focus ((try simp) <;> omega)) | (with_reducible refine below_putB ?_ ?_; rotate_left; focus ((try simp) <;> omega)) | with_reducible refine Below.drew ?_ | with_reducible refine below_drewN ?_ | with_reducible assumption | (with_reducible refine below_step (by assumption) ?_ ?_; rotate_left; focus ((try simp) <;> omega)))), HV.out.keep (by repeat (first | with_reducible exact Below.refl _ _ | (with_reducible refine Below.alloc ?_ ?_ _; rotate_left; focus ((try simp) <;> omega)) | (with_reducible refine Below.setCell ?_ ?_ _; rotate_left; focus ((try simp) <;> omega)) | (with_reducible refine below_grow ?_ ?_; rotate_left; focus ((try simp) <;> omega)) | (with_reducible refine below_putB ?_ ?_; rotate_left; focus ((try simp) <;> omega)) | with_reducible refine Below.drew ?_ | with_reducible refine below_drewN ?_ | with_reducible assumption | (with_reducible refine below_step (by assumption) ?_ ?_; rotate_left; focus ((try simp) <;> omega)))), (by repeat (first | with_reducible exact Below.refl _ _ | (with_reducible refine Below.alloc ?_ ?_ _; rotate_left; focus ((try simp) <;> omega)) | (with_reducible refine Below.setCell ?_ ?_ _; rotate_left; focus ((try simp) <;> omega)) | (with_reducible refine below_grow ?_ ?_; rotate_left; focus ((try simp) <;> omega)) | (with_reducible refine below_putB ?_ ?_; rotate_left; focus ((try simp) <;> omega)) | with_reducible refine Below.drew ?_ | with_reducible refine below_drewN ?_ | with_reducible assumption | (with_reducible refine below_step (by assumption) ?_ ?_; rotate_left; focus ((try simp) <;> omega))))⟩
        case measure => simp [intOf]; omega
      · obtain ⟨s', hs', hsn⟩ := ofB_slot hof
        rw [HS.out] at hsn
        dsimp only at hs'
        subst hs'
        have ko := KO.out
        have HOF := Lib.hid hof
        have hcell := HO.out.cell (j := s') (ints_get _ s' (by rw [cntL_len]; exact hsn))
        rw [Nat.zero_add] at hcell
        have hfree := (HO.out.free (j := s') (by omega)).2
        rw [Nat.zero_add] at hfree
        have hy := HYES.out s' rfl hsn HOF.out
        have hcb := HCB.out s'
        obtain ⟨q, hq⟩ : ∃ q, q = (cntL S L n k).getD s' 0 := ⟨_, rfl⟩
        rw [← hq] at hcell hy hcb
        have HY := Lib.hid hy
        rw [HL.out] at hcb
        obtain ⟨hq0, hq1⟩ := hcb
        have i5 : (s' : Int) < (n : Int) := by omega
        have i6 : (0 : Int) ≤ (s' : Int) := by omega
        have i7 : q ≤ 30000000 := by omega
        have ow : Old (w.heap.size + 1) wr := ⟨by have := HO.out.lt (q := w.heap.size + 1) rfl; omega⟩
        clear hy hq
        go_wp2_with fail
        refine (ko _ (s' : Int) gn (by repeat (first | with_reducible exact Below.refl _ _ | (with_reducible refine Below.alloc ?_ ?_ _; rotate_left; focus ((try simp) <;> omega)) | (with_reducible refine Below.setCell ?_ ?_ _; rotate_left; focus ((try simp) <;> omega)) | (with_reducible refine below_grow ?_ ?_; rotate_left; focus ((try simp) <;> omega)) | (with_reducible refine below_putB ?_ ?_; rotate_left; focus ((try simp) <;> omega)) | with_reducible refine Below.drew ?_ | with_reducible refine below_drewN ?_ | with_reducible assumption | (with_reducible refine below_step (by assumption) ?_ ?_; rotate_left; focus ((try simp) <;> omega))))).mono ?_; rintro e w4 ⟨rfl, hb4⟩; have ha4 : After _ w4 := ⟨hb4⟩; obtain ⟨hc4, hf4⟩ := after hb4; have hz4 := hb4.size; try simp at hz4
        rw [hof]
        clear hof ko
        go_wp2_with fail
        have hO4 := HO.out.keep (w' := w4) (by repeat (first | with_reducible exact Below.refl _ _ | (with_reducible refine Below.alloc ?_ ?_ _; rotate_left; focus ((try simp) <;> omega)) | (with_reducible refine Below.setCell ?_ ?_ _; rotate_left; focus ((try simp) <;> omega)) | (with_reducible refine below_grow ?_ ?_; rotate_left; focus ((try simp) <;> omega)) | (with_reducible refine below_putB ?_ ?_; rotate_left; focus ((try simp) <;> omega)) | with_reducible refine Below.drew ?_ | with_reducible refine below_drewN ?_ | with_reducible assumption | (with_reducible refine below_step (by assumption) ?_ ?_; rotate_left; focus ((try simp) <;> omega))))
        have hp := hO4.put (i := s') (news := [.int .i64 (q + 1)]) (by simp; omega)
        rw [List.length_singleton, ints_set _ _ _ (by rw [cntL_len]; exact hsn), ← HY.out, Nat.zero_add] at hp
        have HP := Lib.hid hp
        have hne3 : (Value.slice (some ⟨g, off, none⟩) N c3).ownBlock ≠ some (w.heap.size + 1) := fun e => by have := (HV.out.lt e).1; omega
        have HV4 := Lib.hid ((HV.out.keep (w' := w4) (by repeat (first | with_reducible exact Below.refl _ _ | (with_reducible refine Below.alloc ?_ ?_ _; rotate_left; focus ((try simp) <;> omega)) | (with_reducible refine Below.setCell ?_ ?_ _; rotate_left; focus ((try simp) <;> omega)) | (with_reducible refine below_grow ?_ ?_; rotate_left; focus ((try simp) <;> omega)) | (with_reducible refine below_putB ?_ ?_; rotate_left; focus ((try simp) <;> omega)) | with_reducible refine Below.drew ?_ | with_reducible refine below_drewN ?_ | with_reducible assumption | (with_reducible refine below_step (by assumption) ?_ ?_; rotate_left; focus ((try simp) <;> omega))))).set (o := s') (u := .int .i64 (q + 1)) hne3)
        clear hp hO4 hne3
        go_roundw
        case rel => exact ⟨k + 1, by omega, by go_num, by infer_instance, HP.out, HV4.out, (by repeat (first | with_reducible exact Below.refl _ _ | (with_reducible refine Below.alloc ?_ ?_ _; rotate_left; focus ((try simp) <;> omega)) | (with_reducible refine Below.setCell ?_ ?_ _; rotate_left; focus ((try simp) <;> omega)) | (with_reducible refine below_grow ?_ ?_; rotate_left; focus ((try simp) <;> omega)) | (with_reducible refine below_putB ?_ ?_; rotate_left; focus ((try simp) <;> omega)) | with_reducible refine Below.drew ?_ | with_reducible refine below_drewN ?_ | with_reducible assumption | (with_reducible refine below_step (by assumption) ?_ ?_; rotate_left; focus ((try simp) <;> omega))))⟩
        case measure => simp [intOf]; omega
    · obtain rfl : k = N := by omega
      go_wp2_with fail
      refine ret_any ⟨_, by simp [results, Try.results38, go_sem, *]; rfl, ?_⟩ rfl
      exact ⟨_, rfl, HO.out, hbel⟩
end Go.Proofs.Ytjlclpdjblicjaa
