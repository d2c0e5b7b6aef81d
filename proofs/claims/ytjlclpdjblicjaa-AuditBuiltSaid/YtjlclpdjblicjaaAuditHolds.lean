/-
  Holds, by its contract. No condition but that slots and handles are not too many.
-/
import Derived.Test.YtjlclpdjblicjaaAuditRefCount
namespace Go.Proofs.Ytjlclpdjblicjaa
open Go.RowKit Go.Sort Go.BigFrame
set_option linter.unusedVariables false
attribute [local go_sem ↓] Go.wp_at_zero Go.wp_at_succ
/-- Are the counts of the first k slots as they are told? -/
def cntB (S L : List (Int × Int)) (n k : Nat) : Bool := (List.range k).all fun i => (cntL S L n L.length).getD i 0 == (S.getD i (0, 0)).2
theorem cntB_succ (S L : List (Int × Int)) (n k : Nat) : cntB S L n (k + 1) = (cntB S L n k && ((cntL S L n L.length).getD k 0 == (S.getD k (0, 0)).2)) := by
  unfold cntB; rw [List.range_succ, List.all_append]; simp
theorem cntB_no (S L : List (Int × Int)) (n k : Nat) (hk : k < n) (h : ((cntL S L n L.length).getD k 0 == (S.getD k (0, 0)).2) = false) : cntB S L n n = false := by
  unfold cntB
  rw [List.all_eq_false]
  exact ⟨k, by simpa using hk, by rw [h]; simp⟩
/-- Is every reference counted? -/
def holdsB (S L : List (Int × Int)) (n : Nat) : Bool := L.all (ofB S) && cntB S L n n
theorem all_take (S L : List (Int × Int)) (k : Nat) (hk : k < L.length) : (L.take (k + 1)).all (ofB S) = ((L.take k).all (ofB S) && ofB S (L.getD k (0, 0))) := by
  have e : L.take (k + 1) = L.take k ++ [L.getD k (0, 0)] := by
    rw [List.take_succ_eq_append_getElem hk, List.getD_eq_getElem?_getD, List.getElem?_eq_getElem hk]; rfl
  rw [e, List.all_append]; simp
theorem all_no (S L : List (Int × Int)) (k : Nat) (hk : k < L.length) (h : ofB S (L.getD k (0, 0)) = false) : L.all (ofB S) = false := by
  rw [List.all_eq_false]
  refine ⟨L.getD k (0, 0), ?_, by rw [h]; simp⟩
  rw [List.getD_eq_getElem?_getD, List.getElem?_eq_getElem hk]
  exact List.getElem_mem hk
theorem int_cells {w : World} {n : Nat} {v : Value} {l : List Int} (h : Has w 1 v n (ints l)) (hl : l.length = n) (k : Nat) (hk : k < n) :
    ∃ g off cap, v = .slice (some ⟨g, off, none⟩) n cap ∧ g < w.heap.size ∧ cap ≤ maxLen ∧ w.cell? ⟨g, off + k, none⟩ = some (.int .i64 (l.getD k 0)) := by
  obtain ⟨ao, cap, rfl, _, hc⟩ := h.shape
  obtain ⟨g, off, rfl, hg, hcell⟩ := h.cell (by omega)
  exact ⟨g, off, cap, rfl, hg, hc, hcell _ _ (ints_get l k (by omega))⟩
set_option maxRecDepth 100000 in
set_option maxHeartbeats 4000000 in
theorem holdsS {sv rv wv hv : Value} {n nr nw nh : Nat} {S R Wr H : List (Int × Int)} {w : World} (h : SnapW w sv rv wv hv n nr nw nh S R Wr H) :
    Calls Try.prog 40 #[snapV sv rv wv hv] w (Gives (.bool (holdsB S (R ++ Wr ++ H) n)) w) := by
  have ka := fun (w' : World) (k : Below w.heap.size w w') => allS (h.keep k)
  have kc := fun (w' : World) (k : Below w.heap.size w w') => countedS (h.keep k)
  have ko := fun (w' : World) (s g : Int) (k : Below w.heap.size w w') => ofH (s := s) (g := g) (h.keep k).s h.ls (by have := h.bs; omega) h.r.one h.p.one h.h.one
  have hbs := h.bs
  have hL : (R ++ Wr ++ H).length = nr + nw + nh := by rw [List.length_append, List.length_append, h.lr, h.lw, h.lh]
  have hN : nr + nw + nh ≤ 30000000 := by have := h.br; have := h.bw; have := h.bh; omega
  obtain ⟨L, hLL⟩ : ∃ L, L = R ++ Wr ++ H := ⟨_, rfl⟩
  obtain ⟨N, hNN⟩ : ∃ N, N = nr + nw + nh := ⟨_, rfl⟩
  unfold snapV at ka kc ⊢
  rw [← hLL] at hL ka kc ⊢
  rw [← hNN] at hL hN ka kc
  have KA := Lib.hid ka
  have KC := Lib.hid kc
  have KO := Lib.hid ko
  have HL := Lib.hid hL
  have HSN := Lib.hid h
  obtain ⟨sa, sc, rfl, _, hsc⟩ := h.s.shape
  obtain ⟨ra, rc, rfl, _, _⟩ := h.r.shape
  obtain ⟨wa, wc, rfl, _, _⟩ := h.p.shape
  obtain ⟨ha, hc, rfl, _, _⟩ := h.h.shape
  unfold maxLen at hsc
  clear ka kc ko h hLL hNN hL
  go_enter Try.func40, Try.ntmps40
  go_wp2_with fail
  refine (KA.out _ (by repeat (first | with_reducible exact Below.refl _ _ | (with_reducible refine Below.alloc ?_ ?_ _; rotate_left; focus ((try simp) <;> omega)) | (with_reducible refine Below.setCell ?_ ?_ _; rotate_left; focus ((try simp) <;> omega)) | (with_reducible refine below_grow ?_ ?_; rotate_left; focus ((try simp) <;> omega)) | (with_reducible refine below_putB ?_ ?_; rotate_left; focus ((try simp) <;> omega)) | with_reducible refine Below.drew ?_ | with_reducible refine below_drewN ?_ | with_reducible assumption | (with_reducible refine below_step (by assumption) ?_ ?_; rotate_left; focus ((try simp) <;> omega))))).mono ?_; rintro e w3 ⟨v3, rfl, hL3, hb3⟩; have ha3 : After _ w3 := ⟨hb3⟩
  have B3 : RowKit.Below w.heap.size w w3 := (by repeat (first | with_reducible exact Below.refl _ _ | (with_reducible refine Below.alloc ?_ ?_ _; rotate_left; focus ((try simp) <;> omega)) | (with_reducible refine Below.setCell ?_ ?_ _; rotate_left; focus ((try simp) <;> omega)) | (with_reducible refine below_grow ?_ ?_; rotate_left; focus ((try simp) <;> omega)) | (with_reducible refine below_putB ?_ ?_; rotate_left; focus ((try simp) <;> omega)) | with_reducible refine Below.drew ?_ | with_reducible refine below_drewN ?_ | with_reducible assumption | (with_reducible refine below_step (by assumption) ?_ ?_; rotate_left; focus ((try simp) <;> omega))))
  have hb3s := hb3.size
  have bx3 : BlkIs w3 w.heap.size #[.slice sa n sc, .slice ra nr rc, .slice wa nw wc, .slice ha nh hc] 71 := inferInstance
  have HV3 := Lib.hid (Has.of_line hL3)
  obtain ⟨a3, c3, rfl, _, _⟩ := hL3.shape
  simp at hb3s
  clear hL3 hb3 ha3
  go_wp2_with fail
  go_loopw [10] (fun s10 wr => ∃ k : Nat, k ≤ N ∧ s10 = .int .i64 k ∧ (L.take k).all (ofB S) = true ∧ Below w3.heap.size w3 wr) (fun i _ => N - (intOf i).toNat)
  case atStart => exact ⟨0, by omega, rfl, by simp, Below.refl _ _⟩
  case round =>
    obtain ⟨k, hk, rfl, hall, hbel⟩ := hrel
    have hbls := hbel.size
    have bx : BlkIs wr w.heap.size #[.slice sa n sc, .slice ra nr rc, .slice wa nw wc, .slice ha nh hc] 71 := ⟨by rw [hbel.block _ bx3.lt]; exact bx3.eq⟩
    have HALL := Lib.hid hall
    clear hall
    by_cases hlt : k < N
    · obtain ⟨g, off, c, ev, hg, _, p0, p1⟩ := hd_cells (HV3.out.keep hbel) HL.out k hlt
      simp only [Value.slice.injEq, true_and] at ev
      obtain ⟨rfl, rfl⟩ := ev
      have og : Old g wr := ⟨hg⟩
      have hkL : k < L.length := by rw [HL.out]; exact hlt
      have hat := all_take S L k hkL
      have han := all_no S L k hkL
      obtain ⟨⟨s, gn⟩, hx⟩ : ∃ x, x = L.getD k (0, 0) := ⟨_, rfl⟩
      rw [← hx] at p0 p1 hat han
      dsimp only at p0 p1
      have HAT := Lib.hid hat
      have HAN := Lib.hid han
      have i3 : (k : Int) < (N : Int) := by omega
      have i4 : (0 : Int) ≤ (k : Int) := by omega
      have Bw : RowKit.Below w.heap.size w wr := B3.trans (hbel.mono (by omega))
      clear hkL hat han hx
      have ko := KO.out
      cases hof : ofB S (s, gn)
      · have HOF := Lib.hid hof
        go_wp2_with fail
        refine (ko _ s gn (by repeat (first | with_reducible exact Below.refl _ _ | (with_reducible refine Below.alloc ?_ ?_ _; rotate_left; focus ((try simp) <;> omega)) | (with_reducible refine Below.setCell ?_ ?_ _; rotate_left; focus ((try simp) <;> omega)) | (with_reducible refine below_grow ?_ ?_; rotate_left; focus ((try simp) <;> omega)) | (with_reducible refine below_putB ?_ ?_; rotate_left; focus ((try simp) <;> omega)) | with_reducible refine Below.drew ?_ | with_reducible refine below_drewN ?_ | with_reducible assumption | (with_reducible refine below_step (by assumption) ?_ ?_; rotate_left; focus ((try simp) <;> omega))))).mono ?_; rintro e w4 ⟨rfl, hb4⟩
        rw [hof]
        clear hof ko
        go_wp2_with fail
        refine ret_any ⟨_, by simp [results, Try.results40, go_sem, *]; rfl, ?_⟩ rfl
        refine gives_of ?_ (by repeat (first | with_reducible exact Below.refl _ _ | (with_reducible refine Below.alloc ?_ ?_ _; rotate_left; focus ((try simp) <;> omega)) | (with_reducible refine Below.setCell ?_ ?_ _; rotate_left; focus ((try simp) <;> omega)) | (with_reducible refine below_grow ?_ ?_; rotate_left; focus ((try simp) <;> omega)) | (with_reducible refine below_putB ?_ ?_; rotate_left; focus ((try simp) <;> omega)) | with_reducible refine Below.drew ?_ | with_reducible refine below_drewN ?_ | with_reducible assumption | (with_reducible refine below_step (by assumption) ?_ ?_; rotate_left; focus ((try simp) <;> omega))))
        unfold holdsB
        rw [HAN.out HOF.out]
        rfl
      · have HOF := Lib.hid hof
        go_wp2_with fail
        refine (ko _ s gn (by repeat (first | with_reducible exact Below.refl _ _ | (with_reducible refine Below.alloc ?_ ?_ _; rotate_left; focus ((try simp) <;> omega)) | (with_reducible refine Below.setCell ?_ ?_ _; rotate_left; focus ((try simp) <;> omega)) | (with_reducible refine below_grow ?_ ?_; rotate_left; focus ((try simp) <;> omega)) | (with_reducible refine below_putB ?_ ?_; rotate_left; focus ((try simp) <;> omega)) | with_reducible refine Below.drew ?_ | with_reducible refine below_drewN ?_ | with_reducible assumption | (with_reducible refine below_step (by assumption) ?_ ?_; rotate_left; focus ((try simp) <;> omega))))).mono ?_; rintro e w4 ⟨rfl, hb4⟩
        rw [hof]
        clear hof ko
        go_wp2_with fail
        go_roundw
        case rel => exact ⟨k + 1, by omega, by go_num, by rw [HAT.out, HALL.out, HOF.out]; rfl, (by repeat (first | with_reducible exact Below.refl _ _ | (with_reducible refine Below.alloc ?_ ?_ _; rotate_left; focus ((try simp) <;> omega)) | (with_reducible refine Below.setCell ?_ ?_ _; rotate_left; focus ((try simp) <;> omega)) | (with_reducible refine below_grow ?_ ?_; rotate_left; focus ((try simp) <;> omega)) | (with_reducible refine below_putB ?_ ?_; rotate_left; focus ((try simp) <;> omega)) | with_reducible refine Below.drew ?_ | with_reducible refine below_drewN ?_ | with_reducible assumption | (with_reducible refine below_step (by assumption) ?_ ?_; rotate_left; focus ((try simp) <;> omega))))⟩
        case measure => simp [intOf]; omega
    · obtain rfl : k = N := by omega
      have ht : L.take k = L := List.take_of_length_le (by rw [HL.out]; exact Nat.le_refl _)
      have HT := Lib.hid ht
      clear ht
      have Bw : RowKit.Below w.heap.size w wr := B3.trans (hbel.mono (by omega))
      go_wp2_with fail
      refine (KC.out _ Bw).mono ?_; rintro e w5 ⟨v5, rfl, hL5, hb5⟩; have ha5 : After _ w5 := ⟨hb5⟩
      have hb5s := hb5.size
      have B5 : RowKit.Below w.heap.size w w5 := Bw.trans (hb5.mono (by omega))
      have bx5 : BlkIs w5 w.heap.size #[.slice sa n sc, .slice ra nr rc, .slice wa nw wc, .slice ha nh hc] 71 := inferInstance
      have hh := Has.of_line hL5
      rw [← HL.out] at hh
      have HV5 := Lib.hid hh
      obtain ⟨a5, c5, rfl, _, _⟩ := hL5.shape
      clear hL5 hh ha5
      go_wp2_with fail
      obtain ⟨wo, hwo⟩ : ∃ wo : World, wo = wr := ⟨_, rfl⟩
      subst hwo
      go_loopw [22] (fun s22 wr => ∃ j : Nat, j ≤ n ∧ s22 = .int .i64 j ∧ cntB S L n j = true ∧ wr = w5) (fun i _ => n - (intOf i).toNat)
      case atStart => exact ⟨0, by omega, rfl, by simp [cntB], rfl⟩
      case round =>
        obtain ⟨j, hj, rfl, hcb, rfl⟩ := hrel
        have HCB := Lib.hid hcb
        clear hcb
        by_cases hlj : j < n
        · obtain ⟨g, off, c, ev, hg, _, p0⟩ := int_cells HV5.out (cntL_len _ _ _ _) j hlj
          simp only [Value.slice.injEq, true_and] at ev
          obtain ⟨rfl, rfl⟩ := ev
          obtain ⟨g', off', c', ev, hg', _, q0, q1⟩ := sl_cells (HSN.out.keep B5).s HSN.out.ls j hlj
          simp only [Value.slice.injEq, true_and] at ev
          obtain ⟨rfl, rfl⟩ := ev
          have og : Old g wr := ⟨hg⟩
          have og' : Old g' wr := ⟨hg'⟩
          have hcs := cntB_succ S L n j
          have hcn := cntB_no S L n j hlj
          generalize (cntL S L n L.length).getD j 0 = x at p0 hcs hcn
          generalize (S.getD j (0, 0)).2 = y at q1 hcs hcn
          have HCS := Lib.hid hcs
          have HCN := Lib.hid hcn
          have i3 : (j : Int) < (n : Int) := by omega
          have i4 : (0 : Int) ≤ (j : Int) := by omega
          clear q0 hcs hcn
          by_cases hxy : x = y
          · subst hxy
            go_wp2_with fail
            go_roundw
            case rel => exact ⟨j + 1, by omega, by go_num, by rw [HCS.out, HCB.out]; simp, by first | trivial | rfl⟩
            case measure => simp [intOf]; omega
          · have hb : (x == y) = false := by rw [beq_eq_false_iff_ne]; exact hxy
            have HB := Lib.hid hb
            go_wp2_with fail
            refine ret_any ⟨_, by simp [results, Try.results40, go_sem, *]; rfl, ?_⟩ rfl
            refine gives_of ?_ B5
            unfold holdsB
            rw [HCN.out HB.out]
            simp
        · obtain rfl : j = n := by omega
          go_wp2_with fail
          refine ret_any ⟨_, by simp [results, Try.results40, go_sem, *]; rfl, ?_⟩ rfl
          refine gives_of ?_ B5
          unfold holdsB
          rw [← HT.out, HALL.out, HT.out, HCB.out]
          rfl
end Go.Proofs.Ytjlclpdjblicjaa
