/-
  The calls of Holds and Leaks that AuditBuilt makes, by contract. No condition but what built gives.
-/
import Derived.Test.YtjlclpdjblicjaaAuditBuiltS
namespace Go.Proofs.Ytjlclpdjblicjaa
open Go.RowKit Go.Sort Go.BigFrame
set_option linter.unusedVariables false
section
variable {w w' : World} {B : Nat} {sv rv wv hv v : Value} {n nr nw nh : Nat} {S R Wr H : List (Int × Int)}
theorem Made.snap (m : Made w B sv rv wv hv n nr nw nh S R Wr H) : SnapW w sv rv wv hv n nr nw nh S R Wr H := m.four.snap m.l1 m.l2 m.l3 m.l4 m.b1 m.b2
/-- What a call of Leaks that tells these slots leaves. -/
def LeakPost (w : World) (l : List Int) (e : Ending) (w' : World) : Prop := ∃ a c, e = .returned (.slice a l.length c) ∧ Line w' w.heap.size 1 (.slice a l.length c) l.length (ints l) ∧ Below w.heap.size w w'
theorem leaks_post {sv rv wv hv : Value} {n nr nw nh : Nat} {S R Wr H : List (Int × Int)} {w : World} (h : SnapW w sv rv wv hv n nr nw nh S R Wr H) {l : List Int} (e : leaksL S (R ++ Wr ++ H) n n = l) :
    Calls Try.prog 42 #[snapV sv rv wv hv] w (LeakPost w l) := by
  subst e
  refine (leaksS h).mono ?_
  rintro e w' ⟨v, rfl, hL, hb⟩
  obtain ⟨a, c, rfl, _, _⟩ := hL.shape
  exact ⟨a, c, rfl, hL, hb⟩
theorem Made.hold (m : Made w B sv rv wv hv n nr nw nh S R Wr H) (k : Below w.heap.size w w') : Calls Try.prog 40 #[snapV sv rv wv hv] w' (Gives (.bool true) w') := by
  have h := holdsS (m.snap.keep k)
  have e := m.bt.holds
  rw [m.l1] at e
  rwa [e] at h
theorem Made.leak (m : Made w B sv rv wv hv n nr nw nh S R Wr H) (k : Below w.heap.size w w') : Calls Try.prog 42 #[snapV sv rv wv hv] w' (LeakPost w' []) := by
  have e := m.bt.leaks
  rw [m.l1] at e
  exact leaks_post (m.snap.keep k) e
/-- One handle more. -/
theorem Made.more (m : Made w B sv rv wv hv n nr nw nh S R Wr H) (k : Below w.heap.size w w') (x : Int × Int) (l : Has w' 2 v (nw + 1) (hds (Wr ++ [x]))) : Calls Try.prog 40 #[snapV sv rv v hv] w' (Gives (.bool false) w') := by
  have s := m.snap.keep k
  have b2 := m.b2
  have h := holdsS (⟨s.s, s.r, l, s.h, s.ls, s.lr, by simp [s.lw], s.lh, s.bs, s.br, by omega, s.bh⟩ : SnapW w' sv rv v hv n nr (nw + 1) nh S R (Wr ++ [x]) H)
  have e := m.bt.more x
  rw [m.l1] at e
  rwa [e] at h
/-- The k-th handle out. -/
theorem Made.lack (m : Made w B sv rv wv hv n nr nw nh S R Wr H) (k : Below w.heap.size w w') {j p : Nat} (hj : j < nr) (hp : p + 1 = nr) (l : Has w' 2 v p (hds (R.take j ++ R.drop (j + 1)))) :
    Calls Try.prog 40 #[snapV sv v wv hv] w' (Gives (.bool false) w') ∧ Calls Try.prog 42 #[snapV sv v wv hv] w' (LeakPost w' [(R.getD j (0, 0)).1]) := by
  have s := m.snap.keep k
  have b2 := m.b2
  have hl2 := m.l2
  have z : SnapW w' sv v wv hv n p nw nh S (R.take j ++ R.drop (j + 1)) Wr H := ⟨s.s, l, s.p, s.h, s.ls, by simp; omega, s.lw, s.lh, s.bs, by omega, s.bw, s.bh⟩
  have e := m.bt.out j (by omega)
  rw [m.l1] at e
  have h := holdsS z
  rw [e.1] at h
  exact ⟨h, leaks_post z e.2⟩
/-- The k-th handle of another generation. -/
theorem Made.other (m : Made w B sv rv wv hv n nr nw nh S R Wr H) (k : Below w.heap.size w w') {j : Nat} (hj : j < nr) {g : Int} (hg : g ≠ (R.getD j (0, 0)).2) (l : Has w' 2 v nr (hds (R.set j ((R.getD j (0, 0)).1, g)))) :
    Calls Try.prog 40 #[snapV sv v wv hv] w' (Gives (.bool false) w') ∧ Calls Try.prog 42 #[snapV sv v wv hv] w' (LeakPost w' [(R.getD j (0, 0)).1]) := by
  have s := m.snap.keep k
  have hl2 := m.l2
  have z : SnapW w' sv v wv hv n nr nw nh S (R.set j ((R.getD j (0, 0)).1, g)) Wr H := ⟨s.s, l, s.p, s.h, s.ls, by simp; omega, s.lw, s.lh, s.bs, s.br, s.bw, s.bh⟩
  have e := m.bt.other j (by omega) g hg
  rw [m.l1] at e
  have h := holdsS z
  rw [e.1] at h
  exact ⟨h, leaks_post z e.2⟩
theorem Made.gen (m : Made w B sv rv wv hv n nr nw nh S R Wr H) {j : Nat} (hj : j < nr) : 0 ≤ (R.getD j (0, 0)).2 ∧ (R.getD j (0, 0)).2 ≤ 4294967295 := by
  have hl2 := m.l2
  have hm : R.getD j (0, 0) ∈ R ++ Wr ++ H := by
    rw [List.getD_eq_getElem?_getD, List.getElem?_eq_getElem (by omega)]
    exact List.mem_append_left _ (List.mem_append_left _ (List.getElem_mem _))
  obtain ⟨i, _, hi, e⟩ := ofB_at (m.bt.ofs _ hm)
  rw [← e]
  exact m.bt.gen i hi
end
theorem Has.first {w : World} {size n k : Nat} {ao : Option Addr} {cap : Nat} {xs : List Value} (h : Has w size (.slice ao n cap) n xs) (hk : k ≤ n) : Has w size (.slice ao k cap) k (xs.take (k * size)) := by
  obtain ⟨h0, ao', cap', h1, h2, h3, h4, h5⟩ := h
  simp only [Value.slice.injEq, true_and] at h1
  obtain ⟨rfl, rfl⟩ := h1
  have hm : k * size ≤ n * size := Nat.mul_le_mul_right _ hk
  refine ⟨by rw [List.length_take]; omega, ao, cap, rfl, by omega, h3, h4, fun hp => ?_⟩
  obtain ⟨g, off, e, hg, hc⟩ := h5 (by omega)
  refine ⟨g, off, e, hg, fun j u hu => hc j u ?_⟩
  rw [List.getElem?_take] at hu
  split at hu
  · exact hu
  · cases hu
theorem hds_take (R : List (Int × Int)) (k : Nat) : (hds R).take (k * 2) = hds (R.take k) := by
  induction R generalizing k with
  | nil => simp [hds]
  | cons x r ih =>
    cases k with
    | zero => simp [hds]
    | succ k =>
      have := ih k
      simp only [hds, List.flatMap_cons, hdC, List.take_succ_cons, List.cons_append, List.nil_append] at this ⊢
      rw [show (k + 1) * 2 = k * 2 + 1 + 1 by omega, List.take_succ_cons, List.take_succ_cons, this]
theorem hds_drop (R : List (Int × Int)) (k : Nat) : (hds R).drop (k * 2) = hds (R.drop k) := by
  induction R generalizing k with
  | nil => simp [hds]
  | cons x r ih =>
    cases k with
    | zero => simp [hds]
    | succ k =>
      have := ih k
      simp only [hds, List.flatMap_cons, hdC, List.drop_succ_cons, List.cons_append, List.nil_append] at this ⊢
      rw [show (k + 1) * 2 = k * 2 + 1 + 1 by omega, List.drop_succ_cons, List.drop_succ_cons, this]
theorem Has.rest {w : World} {size n k g off cap o : Nat} {xs : List Value} (h : Has w size (.slice (some ⟨g, off, none⟩) n cap) n xs) (hk : k ≤ n) (ho : o = off + k * size ∨ k = n) (hg : g < w.heap.size) :
    Has w size (.slice (some ⟨g, o, none⟩) (n - k) (cap - k)) (n - k) (xs.drop (k * size)) := by
  obtain ⟨h0, ao', cap', h1, h2, h3, h4, h5⟩ := h
  simp only [Value.slice.injEq, true_and] at h1
  obtain ⟨rfl, rfl⟩ := h1
  refine ⟨by rw [List.length_drop, h0, Nat.sub_mul], _, _, rfl, by omega, by omega, (fun h => by cases h), fun hp => ?_⟩
  rcases ho with rfl | rfl
  · obtain ⟨g', off', e, hg, hc⟩ := h5 (by omega)
    simp only [Option.some.injEq, Addr.mk.injEq, and_true] at e
    obtain ⟨rfl, rfl⟩ := e
    refine ⟨g, off + k * size, rfl, hg, fun j u hu => ?_⟩
    rw [List.getElem?_drop] at hu
    rw [Nat.add_assoc]
    exact hc _ u hu
  · omega
/-- A handle's generation in a slice of the call's own. -/
theorem gen_put {w : World} {base g off c n k : Nat} {R : List (Int × Int)} {x : Int} (h : Line w base 2 (.slice (some ⟨g, off, none⟩) n c) n (hds R)) (hl : R.length = n) (hk : k < n) :
    Line (w.setCell ⟨g, off + k * 2 + 1, none⟩ (.int .u32 x)) base 2 (.slice (some ⟨g, off, none⟩) n c) n (hds (R.set k ((R.getD k (0, 0)).1, x))) := by
  have hp := h.put (i := k * 2 + 1) (news := [.int .u32 x]) (by simp; omega)
  have e : (hds R).take (k * 2 + 1) ++ [.int .u32 x] ++ (hds R).drop (k * 2 + 1 + 1) = hds (R.set k ((R.getD k (0, 0)).1, x)) := by
    have hs : R = R.take k ++ R.getD k (0, 0) :: R.drop (k + 1) := by
      rw [List.getD_eq_getElem?_getD, List.getElem?_eq_getElem (by omega), Option.getD_some, List.getElem_cons_drop, List.take_append_drop]
    rw [List.set_eq_take_append_cons_drop, if_pos (by omega)]
    generalize R.getD k (0, 0) = y at hs ⊢
    have hl : (hds (R.take k)).length = k * 2 := by rw [hds_len, List.length_take]; omega
    have e1 : hds R = hds (R.take k) ++ (.int .i64 y.1 :: .int .u32 y.2 :: hds (R.drop (k + 1))) := by
      conv => lhs; rw [hs]
      rw [hds_app]; rfl
    have t1 : (hds (R.take k)).take (k * 2 + 1) = hds (R.take k) := List.take_of_length_le (by omega)
    have d1 : (hds (R.take k)).drop (k * 2 + 1 + 1) = [] := List.drop_eq_nil_of_le (by omega)
    rw [e1, List.take_append, List.drop_append, hl, t1, d1, show k * 2 + 1 - k * 2 = 1 by omega, show k * 2 + 1 + 1 - k * 2 = 2 by omega, hds_app]
    simp only [hds, List.flatMap_cons, hdC, List.take_succ_cons, List.take_zero, List.drop_succ_cons, List.drop_zero, List.nil_append, List.append_assoc, List.cons_append]
  rw [List.length_singleton, e, ← Nat.add_assoc] at hp
  exact hp
theorem PlI.more {W wx : World} {v : Value} {n : Nat} {xs : List Value} {o : Obj} (h : PlI W wx v n xs) : PlI W (wx.alloc o) v n xs := by
  have hb : Below wx.heap.size wx (wx.alloc o) := (Below.refl _ _).alloc (Nat.le_refl _) _
  exact ⟨h.below.trans (hb.mono h.below.size), h.line.keep hb⟩
theorem PlI.put_line {W wx : World} {b : Nat} {v : Value} {n : Nat} {xs : List Value} {cs : Array Value} {t : TypeId} (h : PlI W wx v n xs) (hb : b < W.heap.size) : Line (putB wx b cs t) W.heap.size 2 v n xs :=
  h.line.block (by simp) fun q hq => putB_other (by have := (h.line.lt hq).1; omega)
theorem PlI.put_below2 {W wx : World} {b B : Nat} {v : Value} {n : Nat} {xs : List Value} {cs : Array Value} {t : TypeId} (h : PlI W wx v n xs) (hb : B ≤ b ∧ B ≤ W.heap.size) : Below B W (putB wx b cs t) :=
  below_putB (h.below.mono hb.2) hb.1
end Go.Proofs.Ytjlclpdjblicjaa
