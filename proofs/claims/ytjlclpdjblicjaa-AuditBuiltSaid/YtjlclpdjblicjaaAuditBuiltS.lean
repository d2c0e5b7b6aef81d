/-
  built, by its contract: slots, and handles counted by them. No condition but what the arguments are read as.
-/
import Derived.Test.YtjlclpdjblicjaaAuditBuiltL
import Derived.Deep.CutBlock
import Derived.Deep.DeepCutAuto
namespace Go.Proofs.Ytjlclpdjblicjaa
open Go.RowKit Go.Sort Go.BigFrame
set_option linter.unusedVariables false
attribute [local go_sem ↓] Go.wp_at_zero Go.wp_at_succ
theorem info95 : (Try.prog.info? 95).map (fun i => (i.zero, i.size, i.bytes)) = some (some (.agg #[.int .u32 0, .int .i64 0]), 2, 16) := by kernel_rfl
/-- What built gives. -/
structure Made (w : World) (base : Nat) (sv rv wv hv : Value) (n nr nw nh : Nat) (S R Wr H : List (Int × Int)) : Prop where
  four : Four w base sv rv wv hv n nr nw nh S R Wr H
  bt : Bt S (R ++ Wr ++ H)
  l1 : S.length = n
  l2 : R.length = nr
  l3 : Wr.length = nw
  l4 : H.length = nh
  b1 : n ≤ 30
  b2 : nr + nw + nh ≤ 60
theorem Made.new {w : World} {base n : Nat} {sv : Value} {S : List (Int × Int)} (h : Line w base 2 sv n (sls S)) (hz : True ∨ base ≤ w.heap.size) (bt : Bt S []) (hl : S.length = n) (hn : n ≤ 30) :
    Made w base sv (.slice none 0 0) (.slice none 0 0) (.slice none 0 0) n 0 0 0 S [] [] [] :=
  ⟨⟨h, Line.nil _ _ _, Line.nil _ _ _, Line.nil _ _ _, Ap.nil _, Ap.nil _, Ap.nil _, Ap.nil _, Ap.nil _, Ap.nil _⟩, bt, hl, rfl, rfl, rfl, hn, by decide⟩
section
variable {w : World} {base : Nat} {sv rv wv hv : Value} {n nr nw nh : Nat} {S R Wr H : List (Int × Int)}
theorem Made.putB (m : Made w base sv rv wv hv n nr nw nh S R Wr H) {b : Nat} {cs : Array Value} {t : TypeId} (hb : b < base) : Made (putB w b cs t) base sv rv wv hv n nr nw nh S R Wr H :=
  ⟨m.four.putB hb, m.bt, m.l1, m.l2, m.l3, m.l4, m.b1, m.b2⟩
theorem Made.weak (m : Made w base sv rv wv hv n nr nw nh S R Wr H) {base' : Nat} (hb : base' ≤ base) : Made w base' sv rv wv hv n nr nw nh S R Wr H :=
  ⟨⟨m.four.s.weak hb, m.four.r.weak hb, m.four.p.weak hb, m.four.h.weak hb, m.four.a1, m.four.a2, m.four.a3, m.four.a4, m.four.a5, m.four.a6⟩, m.bt, m.l1, m.l2, m.l3, m.l4, m.b1, m.b2⟩
theorem Made.step1 {w' : World} {v' : Value} {q : Nat} {gen rf : Int} (m : Made w base sv rv wv hv n nr nw nh S R Wr H) (f : Four w' base sv v' wv hv n (nr + 1) nw nh (S.set q ((S.getD q (0, 0)).1, rf + 1)) (R ++ [((q : Int), gen)]) Wr H) (hq : q < n)
    (h1 : gen = (S.getD q (0, 0)).1) (h2 : rf = (S.getD q (0, 0)).2) (hb : nr + nw + nh < 60) : Made w' base sv v' wv hv n (nr + 1) nw nh (S.set q (gen, rf + 1)) (R ++ [((q : Int), gen)]) Wr H := by
  subst h1 h2
  exact ⟨f, m.bt.put1 q (by rw [m.l1]; exact hq), by rw [List.length_set]; exact m.l1, by rw [List.length_append, m.l2]; rfl, m.l3, m.l4, m.b1, by omega⟩
theorem Made.step2 {w' : World} {v' : Value} {q : Nat} {gen rf : Int} (m : Made w base sv rv wv hv n nr nw nh S R Wr H) (f : Four w' base sv v' hv rv n (nw + 1) nh nr (S.set q ((S.getD q (0, 0)).1, rf + 1)) (Wr ++ [((q : Int), gen)]) H R) (hq : q < n)
    (h1 : gen = (S.getD q (0, 0)).1) (h2 : rf = (S.getD q (0, 0)).2) (hb : nr + nw + nh < 60) : Made w' base sv rv v' hv n nr (nw + 1) nh (S.set q (gen, rf + 1)) R (Wr ++ [((q : Int), gen)]) H := by
  subst h1 h2
  exact ⟨f.turn.turn, m.bt.put2 q (by rw [m.l1]; exact hq), by rw [List.length_set]; exact m.l1, m.l2, by rw [List.length_append, m.l3]; rfl, m.l4, m.b1, by omega⟩
theorem Made.step3 {w' : World} {v' : Value} {q : Nat} {gen rf : Int} (m : Made w base sv rv wv hv n nr nw nh S R Wr H) (f : Four w' base sv v' rv wv n (nh + 1) nr nw (S.set q ((S.getD q (0, 0)).1, rf + 1)) (H ++ [((q : Int), gen)]) R Wr) (hq : q < n)
    (h1 : gen = (S.getD q (0, 0)).1) (h2 : rf = (S.getD q (0, 0)).2) (hb : nr + nw + nh < 60) : Made w' base sv rv wv v' n nr nw (nh + 1) (S.set q (gen, rf + 1)) R Wr (H ++ [((q : Int), gen)]) := by
  subst h1 h2
  exact ⟨f.turn, m.bt.put3 q (by rw [m.l1]; exact hq), by rw [List.length_set]; exact m.l1, m.l2, m.l3, by rw [List.length_append, m.l4]; rfl, m.b1, by omega⟩
end
/-- What a call of built leaves. -/
def BuiltPost (w : World) (e : Ending) (w' : World) : Prop := ∃ sa n sc ra nr rc wa nw wq ha nh hc S R Wr H, e = .returned (snapV (.slice sa n sc) (.slice ra nr rc) (.slice wa nw wq) (.slice ha nh hc)) ∧
  Made w' w.heap.size (.slice sa n sc) (.slice ra nr rc) (.slice wa nw wq) (.slice ha nh hc) n nr nw nh S R Wr H ∧ Below w.heap.size w w'
theorem sls_one2 (x y : Int) : ∀ u ∈ [Value.int .u32 x, Value.int .i64 y], u.oneCell' = true := by simp [Value.oneCell']
theorem hds_one2 (x y : Int) : ∀ u ∈ [Value.int .i64 x, Value.int .u32 y], u.oneCell' = true := by simp [Value.oneCell']
set_option maxRecDepth 100000 in
set_option maxHeartbeats 8000000 in
theorem builtS {gv hv : Value} {ng nd : Nat} {G D : List Int} {w : World} (hG : Has w 1 gv ng (u32s G)) (hD : Has w 1 hv nd (ints D)) (lG : G.length = ng) (lD : D.length = nd) (kG : ∀ x ∈ G, isU32 x) :
    Calls Try.prog 46 #[gv, hv] w (BuiltPost w) := by
  have HG := Lib.hid hG
  have HD := Lib.hid hD
  have HLG := Lib.hid lG
  have HLD := Lib.hid lD
  have HKG := Lib.hid kG
  obtain ⟨ga, gc, rfl, hgl, hgc⟩ := hG.shape
  obtain ⟨da, dc, rfl, hdl, hdc⟩ := hD.shape
  unfold maxLen at hgc hdc
  obtain ⟨i0, hi, hz0, hz1, hz2⟩ := info_parts info95
  have HI := And.intro (Lib.hid hi) (And.intro (Lib.hid hz0) (And.intro (Lib.hid hz1) (Lib.hid hz2)))
  clear hi hz0 hz1 hz2
  obtain ⟨i1', hi, hz0, hz1, hz2⟩ := info_parts info30
  have HJ := And.intro (Lib.hid hi) (And.intro (Lib.hid hz0) (And.intro (Lib.hid hz1) (Lib.hid hz2)))
  clear hi hz0 hz1 hz2 hG hD lG lD kG
  go_enter Try.func46, Try.ntmps46
  go_upto_block 0 with fail
  go_cut [] (fun wx => ∃ k sa sc, k ≤ 30 ∧ k ≤ ng ∧ BlkIs wx (w.heap.size + 1) #[.slice sa k sc, .slice none 0 0, .slice none 0 0, .slice none 0 0] 71 ∧ BlkIs wx w.heap.size #[.slice none 0 0, .slice none 0 0, .slice none 0 0, .slice none 0 0] 71 ∧ Line wx (w.heap.size + 2) 2 (.slice sa k sc) k (sls (newS G k)) ∧ Below w.heap.size w wx)
  case first =>
    go_wp2_with fail
    go_loopw [6] (fun s6 wr => ∃ (k : Nat) (sa : Option Addr) (sc : Nat), k ≤ 30 ∧ k ≤ ng ∧ s6 = .int .i64 k ∧ BlkIs wr (w.heap.size + 1) #[.slice sa k sc, .slice none 0 0, .slice none 0 0, .slice none 0 0] 71 ∧ BlkIs wr w.heap.size #[.slice none 0 0, .slice none 0 0, .slice none 0 0, .slice none 0 0] 71 ∧ Line wr (w.heap.size + 2) 2 (.slice sa k sc) k (sls (newS G k)) ∧ Below w.heap.size w wr) (fun i _ => 30 - (intOf i).toNat)
    case atStart => exact ⟨0, none, 0, by omega, by omega, rfl, by infer_instance, by infer_instance, by simpa [newS, sls] using Line.nil _ _ 2, (by repeat (first | with_reducible exact Below.refl _ _ | (with_reducible refine Below.alloc ?_ ?_ _; rotate_left; focus ((try simp) <;> omega)) | (with_reducible refine Below.setCell ?_ ?_ _; rotate_left; focus ((try simp) <;> omega)) | (with_reducible refine below_grow ?_ ?_; rotate_left; focus ((try simp) <;> omega)) | (with_reducible refine below_putB ?_ ?_; rotate_left; focus ((try simp) <;> omega)) | with_reducible refine Below.drew ?_ | with_reducible refine below_drewN ?_ | with_reducible assumption | (with_reducible refine below_step (by assumption) ?_ ?_; rotate_left; focus ((try simp) <;> omega))))⟩
    case round =>
      obtain ⟨k, sa, sc, hk, hkg, rfl, e5, e4, hL, hbel⟩ := hrel
      have hbls := hbel.size
      have hlt5 := e5.lt
      have HL := Lib.hid hL
      clear hL
      have i1 : (0 : Int) ≤ (k : Int) := by omega
      by_cases h1 : k < ng
      · have i2 : (k : Int) < (ng : Int) := by omega
        by_cases h2 : k < 30
        · have i3 : (k : Int) < 30 := by omega
          obtain ⟨g, off, c, ev, hg, _, hcell⟩ := u32_cells HG.out HLG.out k h1
          simp only [Value.slice.injEq, true_and] at ev
          obtain ⟨rfl, rfl⟩ := ev
          have hs := newS_succ G k (by rw [HLG.out]; exact h1)
          have HC := Lib.hid hcell
          have HS := Lib.hid hs
          generalize G.getD k 0 = x at HC HS
          clear hcell hs
          go_wp2_with fail
          refine wp_region_noPanic ?_
          refine wp_region_held_drew (S := (fun w' => w'.cell? ⟨g, off + k, none⟩ = some (.int .u32 x))) (by kernel_rfl) (by (try dsimp only); exact keep_cell (by repeat (first | with_reducible exact Below.refl _ _ | (with_reducible refine Below.alloc ?_ ?_ _; rotate_left; focus ((try simp) <;> omega)) | (with_reducible refine Below.setCell ?_ ?_ _; rotate_left; focus ((try simp) <;> omega)) | (with_reducible refine below_grow ?_ ?_; rotate_left; focus ((try simp) <;> omega)) | (with_reducible refine below_putB ?_ ?_; rotate_left; focus ((try simp) <;> omega)) | with_reducible refine Below.drew ?_ | with_reducible refine below_drewN ?_ | with_reducible assumption | (with_reducible refine below_step (by assumption) ?_ ?_; rotate_left; focus ((try simp) <;> omega)))) hg HC.out) (fun hHeld => ?_)
          refine wpAnyH_take (i := 0) (oi := _) (v := ?_) (by simp only [List.getElem?_toArray, List.getElem?_cons_zero]; rfl) (by kernel_rfl) (by kernel_rfl) (by kernel_rfl) (fun _ _ _ h => h) (Or.inl ⟨by rfl, ?_⟩) (by assumption) ?_
          rotate_left
          focus (intro w hSw; (try dsimp only at hSw); (try have hS1 := hSw.1); (try have hS2 := hSw.2); (try have hS3 := hSw.2.1); (try have hS4 := hSw.2.2); go_simp; try with_reducible rfl)
          (try simp only [Act.put, List.setIfInBounds_toArray, List.set_cons_zero, List.set_cons_succ])
          refine wpAnyH_take (i := 2) (oi := _) (v := ?_) (by simp only [List.getElem?_toArray, List.getElem?_cons_succ, List.getElem?_cons_zero]; rfl) (by kernel_rfl) (by kernel_rfl) (by kernel_rfl) (fun _ _ _ h => h) (Or.inl ⟨by rfl, ?_⟩) (by assumption) ?_
          rotate_left
          focus (intro w hSw; (try dsimp only at hSw); (try have hS1 := hSw.1); (try have hS2 := hSw.2); (try have hS3 := hSw.2.1); (try have hS4 := hSw.2.2); go_simp; try with_reducible rfl)
          (try simp only [Act.put, List.setIfInBounds_toArray, List.set_cons_zero, List.set_cons_succ])
          refine wpAnyH_take (i := 3) (oi := _) (v := ?_) (by simp only [List.getElem?_toArray, List.getElem?_cons_succ, List.getElem?_cons_zero]; rfl) (by kernel_rfl) (by kernel_rfl) (by kernel_rfl) (fun _ _ _ h => h) (Or.inl ⟨by rfl, ?_⟩) (by assumption) ?_
          rotate_left
          focus (intro w hSw; (try dsimp only at hSw); (try have hS1 := hSw.1); (try have hS2 := hSw.2); (try have hS3 := hSw.2.1); (try have hS4 := hSw.2.2); go_simp; try with_reducible rfl)
          (try simp only [Act.put, List.setIfInBounds_toArray, List.set_cons_zero, List.set_cons_succ])
          refine wpAnyH_take (i := 4) (oi := _) (v := ?_) (by simp only [List.getElem?_toArray, List.getElem?_cons_succ, List.getElem?_cons_zero]; rfl) (by kernel_rfl) (by kernel_rfl) (by kernel_rfl) (fun _ _ _ h => h) (Or.inl ⟨by rfl, ?_⟩) (by assumption) ?_
          rotate_left
          focus (intro w hSw; (try dsimp only at hSw); (try have hS1 := hSw.1); (try have hS2 := hSw.2); (try have hS3 := hSw.2.1); (try have hS4 := hSw.2.2); go_simp; try with_reducible rfl)
          (try simp only [Act.put, List.setIfInBounds_toArray, List.set_cons_zero, List.set_cons_succ])
          refine wpAnyH_take (i := 5) (oi := _) (v := ?_) (by simp only [List.getElem?_toArray, List.getElem?_cons_succ, List.getElem?_cons_zero]; rfl) (by kernel_rfl) (by kernel_rfl) (by kernel_rfl) (fun _ _ _ h => h) (Or.inl ⟨by rfl, ?_⟩) (by assumption) ?_
          rotate_left
          focus (intro w hSw; (try dsimp only at hSw); (try have hS1 := hSw.1); (try have hS2 := hSw.2); (try have hS3 := hSw.2.1); (try have hS4 := hSw.2.2); go_simp; try with_reducible rfl)
          (try simp only [Act.put, List.setIfInBounds_toArray, List.set_cons_zero, List.set_cons_succ])
          refine wpAnyH_take (i := 6) (oi := _) (v := ?_) (by simp only [List.getElem?_toArray, List.getElem?_cons_succ, List.getElem?_cons_zero]; rfl) (by kernel_rfl) (by kernel_rfl) (by kernel_rfl) (fun _ _ _ h => h) (Or.inl ⟨by rfl, ?_⟩) (by assumption) ?_
          rotate_left
          focus (intro w hSw; (try dsimp only at hSw); (try have hS1 := hSw.1); (try have hS2 := hSw.2); (try have hS3 := hSw.2.1); (try have hS4 := hSw.2.2); go_simp; try with_reducible rfl)
          (try simp only [Act.put, List.setIfInBounds_toArray, List.set_cons_zero, List.set_cons_succ])
          refine wpAnyH_ready (rs := [1, 7]) (by kernel_rfl) (by simp) ?_
          refine AllReadyH.cons (o := _) (by simp only [List.getElem?_toArray, List.getElem?_cons_succ, List.getElem?_cons_zero]; rfl) (fun K hK => ?_) (AllReadyH.cons (o := _) (by simp only [List.getElem?_toArray, List.getElem?_cons_succ, List.getElem?_cons_zero]; rfl) (fun K hK => ?_) AllReadyH.nil)
          · go_simp
            refine hK.out _ _ (by (try dsimp only); exact keep_cell (by repeat (first | with_reducible exact Below.refl _ _ | (with_reducible refine Below.alloc ?_ ?_ _; rotate_left; focus ((try simp) <;> omega)) | (with_reducible refine Below.setCell ?_ ?_ _; rotate_left; focus ((try simp) <;> omega)) | (with_reducible refine below_grow ?_ ?_; rotate_left; focus ((try simp) <;> omega)) | (with_reducible refine below_putB ?_ ?_; rotate_left; focus ((try simp) <;> omega)) | with_reducible refine Below.drew ?_ | with_reducible refine below_drewN ?_ | with_reducible assumption | (with_reducible refine below_step (by assumption) ?_ ?_; rotate_left; focus ((try simp) <;> omega)))) hg HC.out) (fun hHeld => ?_)
            clear hK K
            (try simp only [Act.put, List.setIfInBounds_toArray, List.set_cons_zero, List.set_cons_succ])
            refine wpAnyH_ready (rs := [7]) (by kernel_rfl) (by simp) ?_
            refine AllReadyH.cons (o := _) (by simp only [List.getElem?_toArray, List.getElem?_cons_succ, List.getElem?_cons_zero]; rfl) (fun K hK => ?_) AllReadyH.nil
            go_simp
            refine hK.out _ _ (by (try dsimp only); exact keep_cell (by repeat (first | with_reducible exact Below.refl _ _ | (with_reducible refine Below.alloc ?_ ?_ _; rotate_left; focus ((try simp) <;> omega)) | (with_reducible refine Below.setCell ?_ ?_ _; rotate_left; focus ((try simp) <;> omega)) | (with_reducible refine below_grow ?_ ?_; rotate_left; focus ((try simp) <;> omega)) | (with_reducible refine below_putB ?_ ?_; rotate_left; focus ((try simp) <;> omega)) | with_reducible refine Below.drew ?_ | with_reducible refine below_drewN ?_ | with_reducible assumption | (with_reducible refine below_step (by assumption) ?_ ?_; rotate_left; focus ((try simp) <;> omega)))) hg HC.out) (fun hHeld => ?_)
            clear hK K
            (try simp only [Act.put, List.setIfInBounds_toArray, List.set_cons_zero, List.set_cons_succ])
            refine wpAnyH_ready (rs := [8]) (by kernel_rfl) (by simp) ?_
            refine AllReadyH.cons (o := _) (by simp only [List.getElem?_toArray, List.getElem?_cons_succ, List.getElem?_cons_zero]; rfl) (fun K hK => ?_) AllReadyH.nil
            (refine step_append_line _ (by rfl) _ _ 68 (by rfl) (w.heap.size + 2) 95 i0 _ 2 16 Try.underlying68 HI.1.out HI.2.1.out HI.2.2.1.out HI.2.2.2.out rfl (by decide) _ _ k 1 (sls (newS G k)) [.int .u32 x, .int .i64 0] (by rfl) (by rfl) (HL.out.keep (by repeat (first | with_reducible exact Below.refl _ _ | (with_reducible refine Below.alloc ?_ ?_ _; rotate_left; focus ((try simp) <;> omega)) | (with_reducible refine Below.setCell ?_ ?_ _; rotate_left; focus ((try simp) <;> omega)) | (with_reducible refine below_grow ?_ ?_; rotate_left; focus ((try simp) <;> omega)) | (with_reducible refine below_putB ?_ ?_; rotate_left; focus ((try simp) <;> omega)) | with_reducible refine Below.drew ?_ | with_reducible refine below_drewN ?_ | with_reducible assumption | (with_reducible refine below_step (by assumption) ?_ ?_; rotate_left; focus ((try simp) <;> omega))))) (Src.one rfl (sls_one2 _ _) (two_src (by simp [go_sem]) (by simp [go_sem]))) (by unfold maxLen; omega) (by omega) (by simp; omega) _ rfl ?_; intro v5 w5 hown5 hgrow5 hat5; have K5 : RowKit.Below (w.heap.size + 2) wr w5 := RowKit.Below.grown (B := w.heap.size + 2) (by repeat (first | with_reducible exact Below.refl _ _ | (with_reducible refine Below.alloc ?_ ?_ _; rotate_left; focus ((try simp) <;> omega)) | (with_reducible refine Below.setCell ?_ ?_ _; rotate_left; focus ((try simp) <;> omega)) | (with_reducible refine below_grow ?_ ?_; rotate_left; focus ((try simp) <;> omega)) | (with_reducible refine below_putB ?_ ?_; rotate_left; focus ((try simp) <;> omega)) | with_reducible refine Below.drew ?_ | with_reducible refine below_drewN ?_ | with_reducible assumption | (with_reducible refine below_step (by assumption) ?_ ?_; rotate_left; focus ((try simp) <;> omega)))) hgrow5 (by simp; omega) (fun q hq => (HL.out.lt hq).1); have B5 : RowKit.Below w.heap.size w w5 := hbel.trans (K5.mono (by omega)); have e5' : BlkIs w5 (w.heap.size + 1) #[.slice sa k sc, .slice none 0 0, .slice none 0 0, .slice none 0 0] 71 := ⟨by rw [K5.block _ (by omega)]; exact e5.eq⟩; have e4' : BlkIs w5 w.heap.size #[.slice none 0 0, .slice none 0 0, .slice none 0 0, .slice none 0 0] 71 := ⟨by rw [K5.block _ (by omega)]; exact e4.eq⟩; obtain ⟨a5, c5, rfl, _, _⟩ := hown5.shape; have HO := Lib.hid hown5; clear hown5 hgrow5 hat5)
            refine hK.out _ _ (by (try dsimp only); exact keep_cell (by repeat (first | with_reducible exact Below.refl _ _ | (with_reducible refine Below.alloc ?_ ?_ _; rotate_left; focus ((try simp) <;> omega)) | (with_reducible refine Below.setCell ?_ ?_ _; rotate_left; focus ((try simp) <;> omega)) | (with_reducible refine below_grow ?_ ?_; rotate_left; focus ((try simp) <;> omega)) | (with_reducible refine below_putB ?_ ?_; rotate_left; focus ((try simp) <;> omega)) | with_reducible refine Below.drew ?_ | with_reducible refine below_drewN ?_ | with_reducible assumption | (with_reducible refine below_step (by assumption) ?_ ?_; rotate_left; focus ((try simp) <;> omega)))) hg HC.out) (fun hHeld => ?_)
            clear hK K
            (try simp only [Act.put, List.setIfInBounds_toArray, List.set_cons_zero, List.set_cons_succ])
            refine wpAnyH_take (i := 9) (oi := _) (v := ?_) (by simp only [List.getElem?_toArray, List.getElem?_cons_succ, List.getElem?_cons_zero]; rfl) (by kernel_rfl) (by kernel_rfl) (by kernel_rfl) (fun _ _ _ h => h) (Or.inl ⟨by rfl, ?_⟩) (by assumption) ?_
            rotate_left
            focus (intro w hSw; (try dsimp only at hSw); (try have hS1 := hSw.1); (try have hS2 := hSw.2); (try have hS3 := hSw.2.1); (try have hS4 := hSw.2.2); go_simp; try with_reducible rfl)
            (try simp only [Act.put, List.setIfInBounds_toArray, List.set_cons_zero, List.set_cons_succ])
            refine wpAnyH_ready (rs := [10]) (by kernel_rfl) (by simp) ?_
            refine AllReadyH.cons (o := _) (by simp only [List.getElem?_toArray, List.getElem?_cons_succ, List.getElem?_cons_zero]; rfl) (fun K hK => ?_) AllReadyH.nil
            go_simp
            refine hK.out _ _ (by (try dsimp only); exact keep_cell (by repeat (first | with_reducible exact Below.refl _ _ | (with_reducible refine Below.alloc ?_ ?_ _; rotate_left; focus ((try simp) <;> omega)) | (with_reducible refine Below.setCell ?_ ?_ _; rotate_left; focus ((try simp) <;> omega)) | (with_reducible refine below_grow ?_ ?_; rotate_left; focus ((try simp) <;> omega)) | (with_reducible refine below_putB ?_ ?_; rotate_left; focus ((try simp) <;> omega)) | with_reducible refine Below.drew ?_ | with_reducible refine below_drewN ?_ | with_reducible assumption | (with_reducible refine below_step (by assumption) ?_ ?_; rotate_left; focus ((try simp) <;> omega)))) hg HC.out) (fun hHeld => ?_)
            clear hK K
            (try simp only [Act.put, List.setIfInBounds_toArray, List.set_cons_zero, List.set_cons_succ])
            refine wpAnyH_done (by kernel_rfl) ?_ _
            refine NoPanic.normal ?_
            go_wp2_with fail
            go_roundw
            case rel =>
              have hl := HO.out
              rw [show sls (newS G k) ++ [.int .u32 x, .int .i64 0] = sls (newS G (k + 1)) by rw [HS.out, sls_app]; rfl] at hl
              exact ⟨k + 1, a5, c5, by omega, by omega, by go_num, by infer_instance, by infer_instance, hl.block (by simp) (fun q hq => putB_other (by have := (hl.lt hq).1; omega)), (by repeat (first | with_reducible exact Below.refl _ _ | (with_reducible refine Below.alloc ?_ ?_ _; rotate_left; focus ((try simp) <;> omega)) | (with_reducible refine Below.setCell ?_ ?_ _; rotate_left; focus ((try simp) <;> omega)) | (with_reducible refine below_grow ?_ ?_; rotate_left; focus ((try simp) <;> omega)) | (with_reducible refine below_putB ?_ ?_; rotate_left; focus ((try simp) <;> omega)) | with_reducible refine Below.drew ?_ | with_reducible refine below_drewN ?_ | with_reducible assumption | (with_reducible refine below_step (by assumption) ?_ ?_; rotate_left; focus ((try simp) <;> omega))))⟩
            case measure => simp [intOf]; omega
          · go_simp
            refine hK.out _ _ (by (try dsimp only); exact keep_cell (by repeat (first | with_reducible exact Below.refl _ _ | (with_reducible refine Below.alloc ?_ ?_ _; rotate_left; focus ((try simp) <;> omega)) | (with_reducible refine Below.setCell ?_ ?_ _; rotate_left; focus ((try simp) <;> omega)) | (with_reducible refine below_grow ?_ ?_; rotate_left; focus ((try simp) <;> omega)) | (with_reducible refine below_putB ?_ ?_; rotate_left; focus ((try simp) <;> omega)) | with_reducible refine Below.drew ?_ | with_reducible refine below_drewN ?_ | with_reducible assumption | (with_reducible refine below_step (by assumption) ?_ ?_; rotate_left; focus ((try simp) <;> omega)))) hg HC.out) (fun hHeld => ?_)
            clear hK K
            (try simp only [Act.put, List.setIfInBounds_toArray, List.set_cons_zero, List.set_cons_succ])
            refine wpAnyH_ready (rs := [1]) (by kernel_rfl) (by simp) ?_
            refine AllReadyH.cons (o := _) (by simp only [List.getElem?_toArray, List.getElem?_cons_succ, List.getElem?_cons_zero]; rfl) (fun K hK => ?_) AllReadyH.nil
            go_simp
            refine hK.out _ _ (by (try dsimp only); exact keep_cell (by repeat (first | with_reducible exact Below.refl _ _ | (with_reducible refine Below.alloc ?_ ?_ _; rotate_left; focus ((try simp) <;> omega)) | (with_reducible refine Below.setCell ?_ ?_ _; rotate_left; focus ((try simp) <;> omega)) | (with_reducible refine below_grow ?_ ?_; rotate_left; focus ((try simp) <;> omega)) | (with_reducible refine below_putB ?_ ?_; rotate_left; focus ((try simp) <;> omega)) | with_reducible refine Below.drew ?_ | with_reducible refine below_drewN ?_ | with_reducible assumption | (with_reducible refine below_step (by assumption) ?_ ?_; rotate_left; focus ((try simp) <;> omega)))) hg HC.out) (fun hHeld => ?_)
            clear hK K
            (try simp only [Act.put, List.setIfInBounds_toArray, List.set_cons_zero, List.set_cons_succ])
            refine wpAnyH_ready (rs := [8]) (by kernel_rfl) (by simp) ?_
            refine AllReadyH.cons (o := _) (by simp only [List.getElem?_toArray, List.getElem?_cons_succ, List.getElem?_cons_zero]; rfl) (fun K hK => ?_) AllReadyH.nil
            (refine step_append_line _ (by rfl) _ _ 68 (by rfl) (w.heap.size + 2) 95 i0 _ 2 16 Try.underlying68 HI.1.out HI.2.1.out HI.2.2.1.out HI.2.2.2.out rfl (by decide) _ _ k 1 (sls (newS G k)) [.int .u32 x, .int .i64 0] (by rfl) (by rfl) (HL.out.keep (by repeat (first | with_reducible exact Below.refl _ _ | (with_reducible refine Below.alloc ?_ ?_ _; rotate_left; focus ((try simp) <;> omega)) | (with_reducible refine Below.setCell ?_ ?_ _; rotate_left; focus ((try simp) <;> omega)) | (with_reducible refine below_grow ?_ ?_; rotate_left; focus ((try simp) <;> omega)) | (with_reducible refine below_putB ?_ ?_; rotate_left; focus ((try simp) <;> omega)) | with_reducible refine Below.drew ?_ | with_reducible refine below_drewN ?_ | with_reducible assumption | (with_reducible refine below_step (by assumption) ?_ ?_; rotate_left; focus ((try simp) <;> omega))))) (Src.one rfl (sls_one2 _ _) (two_src (by simp [go_sem]) (by simp [go_sem]))) (by unfold maxLen; omega) (by omega) (by simp; omega) _ rfl ?_; intro v5 w5 hown5 hgrow5 hat5; have K5 : RowKit.Below (w.heap.size + 2) wr w5 := RowKit.Below.grown (B := w.heap.size + 2) (by repeat (first | with_reducible exact Below.refl _ _ | (with_reducible refine Below.alloc ?_ ?_ _; rotate_left; focus ((try simp) <;> omega)) | (with_reducible refine Below.setCell ?_ ?_ _; rotate_left; focus ((try simp) <;> omega)) | (with_reducible refine below_grow ?_ ?_; rotate_left; focus ((try simp) <;> omega)) | (with_reducible refine below_putB ?_ ?_; rotate_left; focus ((try simp) <;> omega)) | with_reducible refine Below.drew ?_ | with_reducible refine below_drewN ?_ | with_reducible assumption | (with_reducible refine below_step (by assumption) ?_ ?_; rotate_left; focus ((try simp) <;> omega)))) hgrow5 (by simp; omega) (fun q hq => (HL.out.lt hq).1); have B5 : RowKit.Below w.heap.size w w5 := hbel.trans (K5.mono (by omega)); have e5' : BlkIs w5 (w.heap.size + 1) #[.slice sa k sc, .slice none 0 0, .slice none 0 0, .slice none 0 0] 71 := ⟨by rw [K5.block _ (by omega)]; exact e5.eq⟩; have e4' : BlkIs w5 w.heap.size #[.slice none 0 0, .slice none 0 0, .slice none 0 0, .slice none 0 0] 71 := ⟨by rw [K5.block _ (by omega)]; exact e4.eq⟩; obtain ⟨a5, c5, rfl, _, _⟩ := hown5.shape; have HO := Lib.hid hown5; clear hown5 hgrow5 hat5)
            refine hK.out _ _ (by (try dsimp only); exact keep_cell (by repeat (first | with_reducible exact Below.refl _ _ | (with_reducible refine Below.alloc ?_ ?_ _; rotate_left; focus ((try simp) <;> omega)) | (with_reducible refine Below.setCell ?_ ?_ _; rotate_left; focus ((try simp) <;> omega)) | (with_reducible refine below_grow ?_ ?_; rotate_left; focus ((try simp) <;> omega)) | (with_reducible refine below_putB ?_ ?_; rotate_left; focus ((try simp) <;> omega)) | with_reducible refine Below.drew ?_ | with_reducible refine below_drewN ?_ | with_reducible assumption | (with_reducible refine below_step (by assumption) ?_ ?_; rotate_left; focus ((try simp) <;> omega)))) hg HC.out) (fun hHeld => ?_)
            clear hK K
            (try simp only [Act.put, List.setIfInBounds_toArray, List.set_cons_zero, List.set_cons_succ])
            refine wpAnyH_take (i := 9) (oi := _) (v := ?_) (by simp only [List.getElem?_toArray, List.getElem?_cons_succ, List.getElem?_cons_zero]; rfl) (by kernel_rfl) (by kernel_rfl) (by kernel_rfl) (fun _ _ _ h => h) (Or.inl ⟨by rfl, ?_⟩) (by assumption) ?_
            rotate_left
            focus (intro w hSw; (try dsimp only at hSw); (try have hS1 := hSw.1); (try have hS2 := hSw.2); (try have hS3 := hSw.2.1); (try have hS4 := hSw.2.2); go_simp; try with_reducible rfl)
            (try simp only [Act.put, List.setIfInBounds_toArray, List.set_cons_zero, List.set_cons_succ])
            refine wpAnyH_ready (rs := [10]) (by kernel_rfl) (by simp) ?_
            refine AllReadyH.cons (o := _) (by simp only [List.getElem?_toArray, List.getElem?_cons_succ, List.getElem?_cons_zero]; rfl) (fun K hK => ?_) AllReadyH.nil
            go_simp
            refine hK.out _ _ (by (try dsimp only); exact keep_cell (by repeat (first | with_reducible exact Below.refl _ _ | (with_reducible refine Below.alloc ?_ ?_ _; rotate_left; focus ((try simp) <;> omega)) | (with_reducible refine Below.setCell ?_ ?_ _; rotate_left; focus ((try simp) <;> omega)) | (with_reducible refine below_grow ?_ ?_; rotate_left; focus ((try simp) <;> omega)) | (with_reducible refine below_putB ?_ ?_; rotate_left; focus ((try simp) <;> omega)) | with_reducible refine Below.drew ?_ | with_reducible refine below_drewN ?_ | with_reducible assumption | (with_reducible refine below_step (by assumption) ?_ ?_; rotate_left; focus ((try simp) <;> omega)))) hg HC.out) (fun hHeld => ?_)
            clear hK K
            (try simp only [Act.put, List.setIfInBounds_toArray, List.set_cons_zero, List.set_cons_succ])
            refine wpAnyH_done (by kernel_rfl) ?_ _
            refine NoPanic.normal ?_
            go_wp2_with fail
            go_roundw
            case rel =>
              have hl := HO.out
              rw [show sls (newS G k) ++ [.int .u32 x, .int .i64 0] = sls (newS G (k + 1)) by rw [HS.out, sls_app]; rfl] at hl
              exact ⟨k + 1, a5, c5, by omega, by omega, by go_num, by infer_instance, by infer_instance, hl.block (by simp) (fun q hq => putB_other (by have := (hl.lt hq).1; omega)), (by repeat (first | with_reducible exact Below.refl _ _ | (with_reducible refine Below.alloc ?_ ?_ _; rotate_left; focus ((try simp) <;> omega)) | (with_reducible refine Below.setCell ?_ ?_ _; rotate_left; focus ((try simp) <;> omega)) | (with_reducible refine below_grow ?_ ?_; rotate_left; focus ((try simp) <;> omega)) | (with_reducible refine below_putB ?_ ?_; rotate_left; focus ((try simp) <;> omega)) | with_reducible refine Below.drew ?_ | with_reducible refine below_drewN ?_ | with_reducible assumption | (with_reducible refine below_step (by assumption) ?_ ?_; rotate_left; focus ((try simp) <;> omega))))⟩
            case measure => simp [intOf]; omega
        · have i3 : (30 : Int) ≤ (k : Int) := by omega
          go_wp2_with fail
          go_meet
          exact ⟨k, sa, sc, hk, hkg, e5, e4, HL.out, hbel⟩
      · have i2 : (ng : Int) ≤ (k : Int) := by omega
        go_wp2_with fail
        go_meet
        exact ⟨k, sa, sc, hk, hkg, e5, e4, HL.out, hbel⟩
  case rest =>
    obtain ⟨k, sa, sc, hk, hkg, e5, e4, hL, hbel⟩ := hcut
    have hbls := hbel.size
    have hlt5 := e5.lt
    have hm := Made.new hL (Or.inl trivial) (newS_bt G HKG.out k (by rw [HLG.out]; exact hkg)) (newS_len G k (by rw [HLG.out]; exact hkg)) hk
    have HM := Lib.hid hm
    clear hL hm
    go_wp2_with fail
    go_loopw [7] (fun s7 wr => ∃ (j : Nat) (sa : Option Addr) (n sc : Nat) (ra : Option Addr) (nr rc : Nat) (wa : Option Addr) (nw wq : Nat) (ha : Option Addr) (nh hc : Nat) (S R Wr H : List (Int × Int)), j ≤ 60 ∧ j ≤ nd ∧ s7 = .int .i64 j ∧ j = nr + nw + nh ∧
      BlkIs wr (w.heap.size + 1) #[.slice sa n sc, .slice ra nr rc, .slice wa nw wq, .slice ha nh hc] 71 ∧ BlkIs wr w.heap.size #[.slice none 0 0, .slice none 0 0, .slice none 0 0, .slice none 0 0] 71 ∧ Made wr (w.heap.size + 2) (.slice sa n sc) (.slice ra nr rc) (.slice wa nw wq) (.slice ha nh hc) n nr nw nh S R Wr H ∧ Below w.heap.size w wr) (fun i _ => 60 - (intOf i).toNat)
    case atStart => exact ⟨0, sa, k, sc, none, 0, 0, none, 0, 0, none, 0, 0, newS G k, [], [], [], by omega, by omega, rfl, rfl, e5, e4, HM.out, hbel⟩
    case round =>
      clear hbel hbls hlt5 e5 e4 HM hkg hk sa sc k
      obtain ⟨j, sa, n, sc, ra, nr, rc, wa, nw, wq, ha, nh, hc, S, R, Wr, H, hj, hjd, rfl, hjn, e5, e4, hm, hbel⟩ := hrel
      have hbls := hbel.size
      have hlt5 := e5.lt
      have HM := Lib.hid hm
      have HJN := Lib.hid hjn
      have hn30 := hm.b1
      have hb60 := hm.b2
      clear hm hjn
      have i1 : (0 : Int) ≤ (j : Int) := by omega
      by_cases h1 : j < nd
      · have i2 : (j : Int) < (nd : Int) := by omega
        by_cases h2 : j < 60
        · have i3 : (j : Int) < 60 := by omega
          by_cases h3 : 0 < n
          · have i4 : (0 : Int) < (n : Int) := by omega
            obtain ⟨g, off, c, ev, hg, _, hcell⟩ := int_cells HD.out HLD.out j h1
            simp only [Value.slice.injEq, true_and] at ev
            obtain ⟨rfl, rfl⟩ := ev
            have HC := Lib.hid hcell
            generalize D.getD j 0 = x at HC
            obtain ⟨y, hy⟩ : ∃ y : Nat, x % 65536 = (y : Int) := ⟨(x % 65536).toNat, by omega⟩
            have hlow := low16 x
            rw [hy] at hlow
            obtain ⟨q, hq⟩ : ∃ q : Nat, q = y % n := ⟨_, rfl⟩
            have hqn : q < n := by rw [hq]; exact Nat.mod_lt _ h3
            have hmod : (y : Int).tmod (n : Int) = (q : Int) := by rw [hq]; rfl
            have i5 : ¬ n = 0 := by omega
            clear hcell hy hq
            obtain ⟨g0, off0, c0, ev, hg0, _, q0, q1⟩ := sl_cells (Has.of_line HM.out.four.s) HM.out.l1 q hqn
            simp only [Value.slice.injEq, true_and] at ev
            obtain ⟨rfl, rfl⟩ := ev
            have hfree := (HM.out.four.s.free (j := q * 2 + 1) (by have := HM.out.four.s.shape; obtain ⟨_, c', e, h', _⟩ := this; simp only [Value.slice.injEq, true_and] at e; omega)).2
            rw [← Nat.add_assoc] at hfree
            have hgb := (HM.out.four.s.lt rfl).1
            have hrf := HM.out.bt.refs q (by rw [HM.out.l1]; exact hqn)
            have hlen : (R ++ Wr ++ H).length ≤ 60 := by rw [List.length_append, List.length_append, HM.out.l2, HM.out.l3, HM.out.l4]; have := HM.out.b2; omega
            obtain ⟨gen, hgen⟩ : ∃ gen, gen = (S.getD q (0, 0)).1 := ⟨_, rfl⟩
            obtain ⟨rf, hrfe⟩ : ∃ rf, rf = (S.getD q (0, 0)).2 := ⟨_, rfl⟩
            rw [← hgen] at q0
            rw [← hrfe] at q1 hrf
            obtain ⟨r0, r1⟩ := hrf
            have r2 : rf ≤ 60 := by omega
            have F2 := HM.out.four.up (x := rf + 1) hqn HM.out.l1
            have F3 : Four (((wr.setCell ⟨g0, off0 + q * 2 + 1, none⟩ (.int .i64 (rf + 1))).alloc (.cells #[.int .i64 q, .int .u32 gen] 30)).alloc (.cells #[.int .i64 q, .int .u32 gen] 30)).drew (w.heap.size + 2) _ _ _ _ n nr nw nh _ R Wr H := F2.keep (by repeat (first | with_reducible exact Below.refl _ _ | (with_reducible refine Below.alloc ?_ ?_ _; rotate_left; focus ((try simp) <;> omega)) | (with_reducible refine Below.setCell ?_ ?_ _; rotate_left; focus ((try simp) <;> omega)) | (with_reducible refine below_grow ?_ ?_; rotate_left; focus ((try simp) <;> omega)) | (with_reducible refine below_putB ?_ ?_; rotate_left; focus ((try simp) <;> omega)) | with_reducible refine Below.drew ?_ | with_reducible refine below_drewN ?_ | with_reducible assumption | (with_reducible refine below_step (by assumption) ?_ ?_; rotate_left; focus ((try simp) <;> omega))))
            have HF := Lib.hid F3
            have HGEN := Lib.hid hgen
            have HRF := Lib.hid hrfe
            have og0 : Old g0 wr := ⟨hg0⟩
            have i6 : (0 : Int) ≤ (q : Int) := by omega
            have i7 : (q : Int) < (n : Int) := by omega
            clear hgen hrfe F2 F3 hlen r1
            go_wp2_with fail
            refine wp_region_noPanic ?_
            refine wp_region_held_drew (S := (fun w' => BlkIs w' (w.heap.size + 1) #[.slice (some ⟨g0, off0, none⟩) n sc, .slice ra nr rc, .slice wa nw wq, .slice ha nh hc] 71 ∧ w'.cell? ⟨g, off + j, none⟩ = some (.int .i64 x))) (by kernel_rfl) (by (try dsimp only); exact ⟨by infer_instance, keep_cell (by repeat (first | with_reducible exact Below.refl _ _ | (with_reducible refine Below.alloc ?_ ?_ _; rotate_left; focus ((try simp) <;> omega)) | (with_reducible refine Below.setCell ?_ ?_ _; rotate_left; focus ((try simp) <;> omega)) | (with_reducible refine below_grow ?_ ?_; rotate_left; focus ((try simp) <;> omega)) | (with_reducible refine below_putB ?_ ?_; rotate_left; focus ((try simp) <;> omega)) | with_reducible refine Below.drew ?_ | with_reducible refine below_drewN ?_ | with_reducible assumption | (with_reducible refine below_step (by assumption) ?_ ?_; rotate_left; focus ((try simp) <;> omega)))) hg HC.out⟩) (fun hHeld => ?_)
            refine wpAnyH_take (i := 0) (oi := _) (v := ?_) (by simp only [List.getElem?_toArray, List.getElem?_cons_zero]; rfl) (by kernel_rfl) (by kernel_rfl) (by kernel_rfl) (fun _ _ _ h => h) (Or.inl ⟨by rfl, ?_⟩) (by assumption) ?_
            rotate_left
            focus (intro w hSw; (try dsimp only at hSw); (try have hS1 := hSw.1); (try have hS2 := hSw.2); (try have hS3 := hSw.2.1); (try have hS4 := hSw.2.2); go_simp; try with_reducible rfl)
            (try simp only [Act.put, List.setIfInBounds_toArray, List.set_cons_zero, List.set_cons_succ])
            refine wpAnyH_take (i := 1) (oi := _) (v := ?_) (by simp only [List.getElem?_toArray, List.getElem?_cons_succ, List.getElem?_cons_zero]; rfl) (by kernel_rfl) (by kernel_rfl) (by kernel_rfl) (fun _ _ _ h => h) (Or.inl ⟨by rfl, ?_⟩) (by assumption) ?_
            rotate_left
            focus (intro w hSw; (try dsimp only at hSw); (try have hS1 := hSw.1); (try have hS2 := hSw.2); (try have hS3 := hSw.2.1); (try have hS4 := hSw.2.2); go_simp; try with_reducible rfl)
            (try simp only [Act.put, List.setIfInBounds_toArray, List.set_cons_zero, List.set_cons_succ])
            refine wpAnyH_take (i := 2) (oi := _) (v := ?_) (by simp only [List.getElem?_toArray, List.getElem?_cons_succ, List.getElem?_cons_zero]; rfl) (by kernel_rfl) (by kernel_rfl) (by kernel_rfl) (fun _ _ _ h => h) (Or.inl ⟨by rfl, ?_⟩) (by assumption) ?_
            rotate_left
            focus (intro w hSw; (try dsimp only at hSw); (try have hS1 := hSw.1); (try have hS2 := hSw.2); (try have hS3 := hSw.2.1); (try have hS4 := hSw.2.2); go_simp; try with_reducible rfl)
            (try simp only [Act.put, List.setIfInBounds_toArray, List.set_cons_zero, List.set_cons_succ])
            refine wpAnyH_take (i := 3) (oi := _) (v := ?_) (by simp only [List.getElem?_toArray, List.getElem?_cons_succ, List.getElem?_cons_zero]; rfl) (by kernel_rfl) (by kernel_rfl) (by kernel_rfl) (fun _ _ _ h => h) (Or.inl ⟨by rfl, ?_⟩) (by assumption) ?_
            rotate_left
            focus (intro w hSw; (try dsimp only at hSw); (try have hS1 := hSw.1); (try have hS2 := hSw.2); (try have hS3 := hSw.2.1); (try have hS4 := hSw.2.2); go_simp; try with_reducible rfl)
            (try simp only [Act.put, List.setIfInBounds_toArray, List.set_cons_zero, List.set_cons_succ])
            refine wpAnyH_take (i := 4) (oi := _) (v := ?_) (by simp only [List.getElem?_toArray, List.getElem?_cons_succ, List.getElem?_cons_zero]; rfl) (by kernel_rfl) (by kernel_rfl) (by kernel_rfl) (fun _ _ _ h => h) (Or.inl ⟨by rfl, ?_⟩) (by assumption) ?_
            rotate_left
            focus (intro w hSw; (try dsimp only at hSw); (try have hS1 := hSw.1); (try have hS2 := hSw.2); (try have hS3 := hSw.2.1); (try have hS4 := hSw.2.2); go_simp; try with_reducible rfl)
            (try simp only [Act.put, List.setIfInBounds_toArray, List.set_cons_zero, List.set_cons_succ])
            refine wpAnyH_take (i := 5) (oi := _) (v := ?_) (by simp only [List.getElem?_toArray, List.getElem?_cons_succ, List.getElem?_cons_zero]; rfl) (by kernel_rfl) (by kernel_rfl) (by kernel_rfl) (fun _ _ _ h => h) (Or.inl ⟨by rfl, ?_⟩) (by assumption) ?_
            rotate_left
            focus (intro w hSw; (try dsimp only at hSw); (try have hS1 := hSw.1); (try have hS2 := hSw.2); (try have hS3 := hSw.2.1); (try have hS4 := hSw.2.2); go_simp; try with_reducible rfl)
            (try simp only [Act.put, List.setIfInBounds_toArray, List.set_cons_zero, List.set_cons_succ])
            refine wpAnyH_take (i := 6) (oi := _) (v := ?_) (by simp only [List.getElem?_toArray, List.getElem?_cons_succ, List.getElem?_cons_zero]; rfl) (by kernel_rfl) (by kernel_rfl) (by kernel_rfl) (fun _ _ _ h => h) (Or.inl ⟨by rfl, ?_⟩) (by assumption) ?_
            rotate_left
            focus (intro w hSw; (try dsimp only at hSw); (try have hS1 := hSw.1); (try have hS2 := hSw.2); (try have hS3 := hSw.2.1); (try have hS4 := hSw.2.2); go_simp; try with_reducible rfl)
            (try simp only [Act.put, List.setIfInBounds_toArray, List.set_cons_zero, List.set_cons_succ])
            refine wpAnyH_take (i := 7) (oi := _) (v := ?_) (by simp only [List.getElem?_toArray, List.getElem?_cons_succ, List.getElem?_cons_zero]; rfl) (by kernel_rfl) (by kernel_rfl) (by kernel_rfl) (fun _ _ _ h => h) (Or.inl ⟨by rfl, ?_⟩) (by assumption) ?_
            rotate_left
            focus (intro w hSw; (try dsimp only at hSw); (try have hS1 := hSw.1); (try have hS2 := hSw.2); (try have hS3 := hSw.2.1); (try have hS4 := hSw.2.2); go_simp; try with_reducible rfl)
            (try simp only [Act.put, List.setIfInBounds_toArray, List.set_cons_zero, List.set_cons_succ])
            refine wpAnyH_take (i := 8) (oi := _) (v := ?_) (by simp only [List.getElem?_toArray, List.getElem?_cons_succ, List.getElem?_cons_zero]; rfl) (by kernel_rfl) (by kernel_rfl) (by kernel_rfl) (fun _ _ _ h => h) (Or.inl ⟨by rfl, ?_⟩) (by assumption) ?_
            rotate_left
            focus (intro w hSw; (try dsimp only at hSw); (try have hS1 := hSw.1); (try have hS2 := hSw.2); (try have hS3 := hSw.2.1); (try have hS4 := hSw.2.2); go_simp; try with_reducible rfl)
            (try simp only [Act.put, List.setIfInBounds_toArray, List.set_cons_zero, List.set_cons_succ])
            refine wpAnyH_ready (rs := [9]) (by kernel_rfl) (by simp) ?_
            refine AllReadyH.cons (o := _) (by simp only [List.getElem?_toArray, List.getElem?_cons_succ, List.getElem?_cons_zero]; rfl) (fun K hK => ?_) AllReadyH.nil
            go_simp
            refine hK.out _ _ (by (try dsimp only); exact ⟨by infer_instance, keep_cell (by repeat (first | with_reducible exact Below.refl _ _ | (with_reducible refine Below.alloc ?_ ?_ _; rotate_left; focus ((try simp) <;> omega)) | (with_reducible refine Below.setCell ?_ ?_ _; rotate_left; focus ((try simp) <;> omega)) | (with_reducible refine below_grow ?_ ?_; rotate_left; focus ((try simp) <;> omega)) | (with_reducible refine below_putB ?_ ?_; rotate_left; focus ((try simp) <;> omega)) | with_reducible refine Below.drew ?_ | with_reducible refine below_drewN ?_ | with_reducible assumption | (with_reducible refine below_step (by assumption) ?_ ?_; rotate_left; focus ((try simp) <;> omega)))) hg HC.out⟩) (fun hHeld => ?_)
            clear hK K
            (try simp only [Act.put, List.setIfInBounds_toArray, List.set_cons_zero, List.set_cons_succ])
            refine wpAnyH_done (by kernel_rfl) ?_ _
            refine NoPanic.normal ?_
            have hm3 : (j : Int).tmod 3 = 0 ∨ (j : Int).tmod 3 = 1 ∨ (j : Int).tmod 3 = 2 := by
              have : (j : Int).tmod 3 = ((j % 3 : Nat) : Int) := rfl
              rw [this]; omega
            rcases hm3 with hm3 | hm3 | hm3
            · go_wp2_with (at_builtin; refine wpList_append_line _ (by rfl) _ _ 69 (by rfl) (w.heap.size + 2) 30 i1' _ 2 16 Try.underlying69 HJ.1.out HJ.2.1.out HJ.2.2.1.out HJ.2.2.2.out rfl (by decide) _ _ nr 1 (hds R) (hds [((q : Int), gen)]) (by rfl) (by rfl) HF.out.r (Src.one rfl (hds_one2 _ _) (two_src (by simp [go_sem]) (by simp [go_sem]))) (by unfold maxLen; omega) (by omega) (by simp; omega) _ rfl ?_; intro v5 w5 hown5 hgrow5 hat5; have K5 : RowKit.Below (w.heap.size + 2) wr w5 := RowKit.Below.grown (B := w.heap.size + 2) (by repeat (first | with_reducible exact Below.refl _ _ | (with_reducible refine Below.alloc ?_ ?_ _; rotate_left; focus ((try simp) <;> omega)) | (with_reducible refine Below.setCell ?_ ?_ _; rotate_left; focus ((try simp) <;> omega)) | (with_reducible refine below_grow ?_ ?_; rotate_left; focus ((try simp) <;> omega)) | (with_reducible refine below_putB ?_ ?_; rotate_left; focus ((try simp) <;> omega)) | with_reducible refine Below.drew ?_ | with_reducible refine below_drewN ?_ | with_reducible assumption | (with_reducible refine below_step (by assumption) ?_ ?_; rotate_left; focus ((try simp) <;> omega)))) hgrow5 (by simp; omega) (fun q hq => (HF.out.r.lt hq).1); have B5 : RowKit.Below w.heap.size w w5 := hbel.trans (K5.mono (by omega)); have e5' : BlkIs w5 (w.heap.size + 1) #[.slice (some ⟨g0, off0, none⟩) n sc, .slice ra nr rc, .slice wa nw wq, .slice ha nh hc] 71 := ⟨by rw [K5.block _ (by omega)]; exact e5.eq⟩; have e4' : BlkIs w5 w.heap.size #[.slice none 0 0, .slice none 0 0, .slice none 0 0, .slice none 0 0] 71 := ⟨by rw [K5.block _ (by omega)]; exact e4.eq⟩; obtain ⟨a5, c5, rfl, _, _⟩ := hown5.shape; have HO5 := Lib.hid hown5; have HG5 := Lib.hid hgrow5; have HA5 := Lib.hid hat5; clear hown5 hgrow5 hat5)
              have M5 := HM.out.step1 (HF.out.app HO5.out HG5.out HA5.out rfl) hqn HGEN.out HRF.out (by have := HJN.out; omega)
              have HM5 := Lib.hid M5
              clear M5
              go_roundw
              case rel => exact ⟨j + 1, some ⟨g0, off0, none⟩, n, sc, a5, nr + 1, c5, wa, nw, wq, ha, nh, hc, S.set q (gen, rf + 1), R ++ [((q : Int), gen)], Wr, H, by omega, by omega, by go_num, by have := HJN.out; omega, by infer_instance, by infer_instance, HM5.out.putB (by omega), (by repeat (first | with_reducible exact Below.refl _ _ | (with_reducible refine Below.alloc ?_ ?_ _; rotate_left; focus ((try simp) <;> omega)) | (with_reducible refine Below.setCell ?_ ?_ _; rotate_left; focus ((try simp) <;> omega)) | (with_reducible refine below_grow ?_ ?_; rotate_left; focus ((try simp) <;> omega)) | (with_reducible refine below_putB ?_ ?_; rotate_left; focus ((try simp) <;> omega)) | with_reducible refine Below.drew ?_ | with_reducible refine below_drewN ?_ | with_reducible assumption | (with_reducible refine below_step (by assumption) ?_ ?_; rotate_left; focus ((try simp) <;> omega))))⟩
              case measure => simp [intOf]; omega
            · go_wp2_with (at_builtin; refine wpList_append_line _ (by rfl) _ _ 69 (by rfl) (w.heap.size + 2) 30 i1' _ 2 16 Try.underlying69 HJ.1.out HJ.2.1.out HJ.2.2.1.out HJ.2.2.2.out rfl (by decide) _ _ nw 1 (hds Wr) (hds [((q : Int), gen)]) (by rfl) (by rfl) HF.out.turn.r (Src.one rfl (hds_one2 _ _) (two_src (by simp [go_sem]) (by simp [go_sem]))) (by unfold maxLen; omega) (by omega) (by simp; omega) _ rfl ?_; intro v5 w5 hown5 hgrow5 hat5; have K5 : RowKit.Below (w.heap.size + 2) wr w5 := RowKit.Below.grown (B := w.heap.size + 2) (by repeat (first | with_reducible exact Below.refl _ _ | (with_reducible refine Below.alloc ?_ ?_ _; rotate_left; focus ((try simp) <;> omega)) | (with_reducible refine Below.setCell ?_ ?_ _; rotate_left; focus ((try simp) <;> omega)) | (with_reducible refine below_grow ?_ ?_; rotate_left; focus ((try simp) <;> omega)) | (with_reducible refine below_putB ?_ ?_; rotate_left; focus ((try simp) <;> omega)) | with_reducible refine Below.drew ?_ | with_reducible refine below_drewN ?_ | with_reducible assumption | (with_reducible refine below_step (by assumption) ?_ ?_; rotate_left; focus ((try simp) <;> omega)))) hgrow5 (by simp; omega) (fun q hq => (HF.out.turn.r.lt hq).1); have B5 : RowKit.Below w.heap.size w w5 := hbel.trans (K5.mono (by omega)); have e5' : BlkIs w5 (w.heap.size + 1) #[.slice (some ⟨g0, off0, none⟩) n sc, .slice ra nr rc, .slice wa nw wq, .slice ha nh hc] 71 := ⟨by rw [K5.block _ (by omega)]; exact e5.eq⟩; have e4' : BlkIs w5 w.heap.size #[.slice none 0 0, .slice none 0 0, .slice none 0 0, .slice none 0 0] 71 := ⟨by rw [K5.block _ (by omega)]; exact e4.eq⟩; obtain ⟨a5, c5, rfl, _, _⟩ := hown5.shape; have HO5 := Lib.hid hown5; have HG5 := Lib.hid hgrow5; have HA5 := Lib.hid hat5; clear hown5 hgrow5 hat5)
              have M5 := HM.out.step2 (HF.out.turn.app HO5.out HG5.out HA5.out rfl) hqn HGEN.out HRF.out (by have := HJN.out; omega)
              have HM5 := Lib.hid M5
              clear M5
              go_roundw
              case rel => exact ⟨j + 1, some ⟨g0, off0, none⟩, n, sc, ra, nr, rc, a5, nw + 1, c5, ha, nh, hc, S.set q (gen, rf + 1), R, Wr ++ [((q : Int), gen)], H, by omega, by omega, by go_num, by have := HJN.out; omega, by infer_instance, by infer_instance, HM5.out.putB (by omega), (by repeat (first | with_reducible exact Below.refl _ _ | (with_reducible refine Below.alloc ?_ ?_ _; rotate_left; focus ((try simp) <;> omega)) | (with_reducible refine Below.setCell ?_ ?_ _; rotate_left; focus ((try simp) <;> omega)) | (with_reducible refine below_grow ?_ ?_; rotate_left; focus ((try simp) <;> omega)) | (with_reducible refine below_putB ?_ ?_; rotate_left; focus ((try simp) <;> omega)) | with_reducible refine Below.drew ?_ | with_reducible refine below_drewN ?_ | with_reducible assumption | (with_reducible refine below_step (by assumption) ?_ ?_; rotate_left; focus ((try simp) <;> omega))))⟩
              case measure => simp [intOf]; omega
            · go_wp2_with (at_builtin; refine wpList_append_line _ (by rfl) _ _ 69 (by rfl) (w.heap.size + 2) 30 i1' _ 2 16 Try.underlying69 HJ.1.out HJ.2.1.out HJ.2.2.1.out HJ.2.2.2.out rfl (by decide) _ _ nh 1 (hds H) (hds [((q : Int), gen)]) (by rfl) (by rfl) HF.out.turn.turn.r (Src.one rfl (hds_one2 _ _) (two_src (by simp [go_sem]) (by simp [go_sem]))) (by unfold maxLen; omega) (by omega) (by simp; omega) _ rfl ?_; intro v5 w5 hown5 hgrow5 hat5; have K5 : RowKit.Below (w.heap.size + 2) wr w5 := RowKit.Below.grown (B := w.heap.size + 2) (by repeat (first | with_reducible exact Below.refl _ _ | (with_reducible refine Below.alloc ?_ ?_ _; rotate_left; focus ((try simp) <;> omega)) | (with_reducible refine Below.setCell ?_ ?_ _; rotate_left; focus ((try simp) <;> omega)) | (with_reducible refine below_grow ?_ ?_; rotate_left; focus ((try simp) <;> omega)) | (with_reducible refine below_putB ?_ ?_; rotate_left; focus ((try simp) <;> omega)) | with_reducible refine Below.drew ?_ | with_reducible refine below_drewN ?_ | with_reducible assumption | (with_reducible refine below_step (by assumption) ?_ ?_; rotate_left; focus ((try simp) <;> omega)))) hgrow5 (by simp; omega) (fun q hq => (HF.out.turn.turn.r.lt hq).1); have B5 : RowKit.Below w.heap.size w w5 := hbel.trans (K5.mono (by omega)); have e5' : BlkIs w5 (w.heap.size + 1) #[.slice (some ⟨g0, off0, none⟩) n sc, .slice ra nr rc, .slice wa nw wq, .slice ha nh hc] 71 := ⟨by rw [K5.block _ (by omega)]; exact e5.eq⟩; have e4' : BlkIs w5 w.heap.size #[.slice none 0 0, .slice none 0 0, .slice none 0 0, .slice none 0 0] 71 := ⟨by rw [K5.block _ (by omega)]; exact e4.eq⟩; obtain ⟨a5, c5, rfl, _, _⟩ := hown5.shape; have HO5 := Lib.hid hown5; have HG5 := Lib.hid hgrow5; have HA5 := Lib.hid hat5; clear hown5 hgrow5 hat5)
              have M5 := HM.out.step3 (HF.out.turn.turn.app HO5.out HG5.out HA5.out rfl) hqn HGEN.out HRF.out (by have := HJN.out; omega)
              have HM5 := Lib.hid M5
              clear M5
              go_roundw
              case rel => exact ⟨j + 1, some ⟨g0, off0, none⟩, n, sc, ra, nr, rc, wa, nw, wq, a5, nh + 1, c5, S.set q (gen, rf + 1), R, Wr, H ++ [((q : Int), gen)], by omega, by omega, by go_num, by have := HJN.out; omega, by infer_instance, by infer_instance, HM5.out.putB (by omega), (by repeat (first | with_reducible exact Below.refl _ _ | (with_reducible refine Below.alloc ?_ ?_ _; rotate_left; focus ((try simp) <;> omega)) | (with_reducible refine Below.setCell ?_ ?_ _; rotate_left; focus ((try simp) <;> omega)) | (with_reducible refine below_grow ?_ ?_; rotate_left; focus ((try simp) <;> omega)) | (with_reducible refine below_putB ?_ ?_; rotate_left; focus ((try simp) <;> omega)) | with_reducible refine Below.drew ?_ | with_reducible refine below_drewN ?_ | with_reducible assumption | (with_reducible refine below_step (by assumption) ?_ ?_; rotate_left; focus ((try simp) <;> omega))))⟩
              case measure => simp [intOf]; omega
          · obtain rfl : n = 0 := by omega
            go_wp2_with fail
            refine ret_any ⟨_, by simp [results, Try.results46, go_sem, *]; rfl, ?_⟩ rfl
            exact ⟨sa, _, sc, ra, nr, rc, wa, nw, wq, ha, nh, hc, S, R, Wr, H, rfl, (HM.out.putB (by omega)).weak (by omega), below_putB hbel (Nat.le_refl _)⟩
        · have i3 : (60 : Int) ≤ (j : Int) := by omega
          go_wp2_with fail
          refine ret_any ⟨_, by simp [results, Try.results46, go_sem, *]; rfl, ?_⟩ rfl
          exact ⟨sa, _, sc, ra, nr, rc, wa, nw, wq, ha, nh, hc, S, R, Wr, H, rfl, (HM.out.putB (by omega)).weak (by omega), below_putB hbel (Nat.le_refl _)⟩
      · have i2 : (nd : Int) ≤ (j : Int) := by omega
        go_wp2_with fail
        refine ret_any ⟨_, by simp [results, Try.results46, go_sem, *]; rfl, ?_⟩ rfl
        exact ⟨sa, _, sc, ra, nr, rc, wa, nw, wq, ha, nh, hc, S, R, Wr, H, rfl, (HM.out.putB (by omega)).weak (by omega), below_putB hbel (Nat.le_refl _)⟩
end Go.Proofs.Ytjlclpdjblicjaa
