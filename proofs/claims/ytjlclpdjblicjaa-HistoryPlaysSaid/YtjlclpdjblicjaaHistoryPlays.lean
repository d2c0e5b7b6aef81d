/-
  The law HistoryPlays as a walk: any calls: what each tells, and all that is kept behind it. No condition but that the arguments fit their types.
-/
import Derived.Test.YtjlclpdjblicjaaPlaysI
import Derived.Deep.RegionHeld3
import Derived.Deep.DeepCutAuto
import Derived.Deep.CutBlock
namespace Go.Proofs.Ytjlclpdjblicjaa
open Go.RowKit Go.Sort Go.BigFrame
set_option linter.unusedVariables false
attribute [local go_sem ↓] Go.wp_at_zero Go.wp_at_succ
set_option maxRecDepth 100000 in
set_option maxHeartbeats 8000000 in
theorem historyPlays_ok (v0 v1 : Value) (w : World) (h0 : Arg Try.prog w 3 v0) (h1 : Arg Try.prog w 46 v1) : Calls Try.prog 7 #[v0, v1] w (Gives (.bool true) w) := by
  obtain ⟨n, rfl, hn, hn'⟩ := arg_i64 Try.underlying3 h0
  obtain ⟨sa, len, cap, he, hlen, hcell⟩ := fit_rowHact rfl (arg_slice Try.underlying46 h1)
  simp only [List.cons.injEq, and_true] at he
  subst he
  have HC := Lib.hid hcell
  unfold maxLen at hlen
  have hM4 := mostN_le n
  obtain ⟨M, hMM⟩ : ∃ M, M = mostN n := ⟨_, rfl⟩
  rw [← hMM] at hM4
  have klast := fun (X : World) (B ln : Nat) (v : Value) (A : List Ent) (h : Line X B 7 v ln (ents A)) (hl : ln ≤ 100000000) => lastR h n hn hn' hl
  rw [← hMM] at klast
  have KLAST := Lib.hid klast
  have HMM := Lib.hid hMM
  clear h0 h1 hcell hMM klast
  obtain ⟨i0, hi, hz0, hz1, hz2⟩ := info_parts info54
  have HI := And.intro (Lib.hid hi) (And.intro (Lib.hid hz0) (And.intro (Lib.hid hz1) (Lib.hid hz2)))
  clear hi hz0 hz1 hz2
  go_enter Try.func7, Try.ntmps7
  go_wp2_with (first | (go_at_call 27; refine (shown18 _).mono ?_; rintro e w1 ⟨rfl, hb1⟩; have ha1 : After _ w1 := ⟨hb1⟩; obtain ⟨hc1, hf1⟩ := after hb1; have hz1 := hb1.size; try simp at hz1))
  obtain ⟨W, hW⟩ : ∃ W : World, W = w1 := ⟨_, rfl⟩
  subst hW
  have hWb : RowKit.Below w.heap.size w W := (by repeat (first | with_reducible exact Below.refl _ _ | (with_reducible refine Below.alloc ?_ ?_ _; rotate_left; focus ((try simp) <;> omega)) | (with_reducible refine Below.setCell ?_ ?_ _; rotate_left; focus ((try simp) <;> omega)) | (with_reducible refine below_grow ?_ ?_; rotate_left; focus ((try simp) <;> omega)) | (with_reducible refine below_putB ?_ ?_; rotate_left; focus ((try simp) <;> omega)) | with_reducible refine Below.drew ?_ | with_reducible refine below_drewN ?_ | with_reducible assumption | (with_reducible refine below_step (by assumption) ?_ ?_; rotate_left; focus ((try simp) <;> omega))))
  have hWs := hWb.size
  clear hc1 hf1 ha1 hb1 hz1
  refine (newJ _ n hn hn').mono ?_; rintro e w2 ⟨rfl, J2, hz2⟩
  obtain ⟨hb, hhb⟩ : ∃ hb, hb = W.heap.size := ⟨_, rfl⟩
  rw [← hhb, ← HMM.out] at J2
  rw [← hhb]
  have J2' := Lib.hid J2
  clear J2 hhb
  go_wp2_with fail
  go_loopw [6, 7] (fun s6 s7 wr => ∃ (k : Nat) (v : Value) (A : List Ent), k ≤ len ∧ k ≤ 200 ∧ A.length ≤ k ∧ s7 = .int .i64 k ∧ PlayH W wr hb M v s6 A) (fun _ i _ => len - (intOf i).toNat)
  case atStart => exact ⟨0, _, [], by omega, by omega, by simp, rfl, ⟨by simpa [lastE] using J2'.out, by simpa [ents] using Line.nil w2 W.heap.size 7, by simp [Value.ownBlock], fun q hq => by simp [Value.ownBlock] at hq⟩⟩
  case round =>
    obtain ⟨k, v, A, hk, hk2, hAk, rfl, J⟩ := hrel
    have hbel := J.J.bel
    have hbs := hbel.size
    have hhb := J.J.lt
    have JH := Lib.hid J
    obtain ⟨av, cv, hvA, _, hcv⟩ := J.L.shape
    rename_i va _
    subst hvA
    have hvlt : ∀ q, (Value.slice av A.length cv).ownBlock = some q → q < wr.heap.size := fun q hq => (J.L.lt hq).2
    have HVLT := Lib.hid hvlt
    have hWw : RowKit.Below w.heap.size w wr := hWb.trans (hbel.mono hWs)
    have hWws := hWw.size
    by_cases hlt : k < len ∧ k < 200
    · obtain ⟨k1, k2⟩ := hlt
      obtain ⟨g, off, kind, e, rfl, hg, hkd0, hkd1, hck, hce⟩ := HC.out k k1
      have c0 : wr.cell? ⟨g, off + k * 8, none⟩ = some (.int .i64 kind) := by rw [hWw.cell (by simpa using hg)]; exact hck
      have hcc := fun j hj => (hWw.cell (p := ⟨g, off + k * 8 + (j + 1), none⟩) (by simpa using hg)).trans (hce j hj)
      obtain ⟨x0, x1, x2, x3, x4, x5, x6⟩ := e
      have d0 := hcc 0 (by omega)
      have d1 := hcc 1 (by omega)
      have d2 := hcc 2 (by omega)
      have d3 := hcc 3 (by omega)
      have d4 := hcc 4 (by omega)
      have d5 := hcc 5 (by omega)
      have d6 := hcc 6 (by omega)
      simp only [entC, List.getElem?_cons_zero, List.getElem?_cons_succ, Nat.zero_add, Nat.reduceAdd] at d0 d1 d2 d3 d4 d5 d6
      have og : Old g wr := ⟨by omega⟩
      have i3 : (k : Int) < (len : Int) := by omega
      have i4 : (0 : Int) ≤ (k : Int) := by omega
      have i5 : (k : Int) < 200 := by omega
      clear hcc hce hck hvlt J
      go_upto_block 2 with (fail)
      go_cut [6] (fun s6 wx => ∃ (v : Value) (A' : List Ent), A'.length ≤ k + 1 ∧ PlayH W wx hb M v s6 A')
      case first =>
        have bX : BlkIs (wr.alloc (.cells #[.int .i64 kind, .int .u16 x0, .int .i64 x1, .int .u32 x2, .int .u16 x3, .int .u32 x4, .int .u32 x5, .int .u16 x6] 56)) wr.heap.size #[.int .i64 kind, .int .u16 x0, .int .i64 x1, .int .u32 x2, .int .u16 x3, .int .u32 x4, .int .u32 x5, .int .u16 x6] 56 := inferInstance
        clear c0 d0 d1 d2 d3 d4 d5 d6
        obtain ⟨X, hX⟩ : ∃ X, X = wr.alloc (.cells #[.int .i64 kind, .int .u16 x0, .int .i64 x1, .int .u32 x2, .int .u16 x3, .int .u32 x4, .int .u32 x5, .int .u16 x6] 56) := ⟨_, rfl⟩
        have hbX : RowKit.Below wr.heap.size wr X := by rw [hX]; exact (by repeat (first | with_reducible exact Below.refl _ _ | (with_reducible refine Below.alloc ?_ ?_ _; rotate_left; focus ((try simp) <;> omega)) | (with_reducible refine Below.setCell ?_ ?_ _; rotate_left; focus ((try simp) <;> omega)) | (with_reducible refine below_grow ?_ ?_; rotate_left; focus ((try simp) <;> omega)) | (with_reducible refine below_putB ?_ ?_; rotate_left; focus ((try simp) <;> omega)) | with_reducible refine Below.drew ?_ | with_reducible refine below_drewN ?_ | with_reducible assumption | (with_reducible refine below_step (by assumption) ?_ ?_; rotate_left; focus ((try simp) <;> omega))))
        have hzX : wr.heap.size < X.heap.size := by rw [hX]; simp
        have haX : After _ X := ⟨hbX⟩
        have JX := Lib.hid (JH.out.keep hbX)
        rw [← hX] at bX ⊢
        clear hX
        by_cases hk0 : kind = 0
        · subst hk0
          obtain ⟨q, hq⟩ : ∃ q, (lastE A M).length = q := ⟨_, rfl⟩
          have hq2 : q ≤ 64 := by have := lastE_le A M; omega
          have hqA := lastE_len A M
          rw [hq] at hqA
          have hLf := lastLine JX.out.L hq
          obtain ⟨a6, c6, e6, _, hc6⟩ := hLf.shape
          rw [e6] at hLf
          have HE6 := Lib.hid e6
          have HQ := Lib.hid hq
          have hvl : ∀ b, v.ownBlock = some b → b < wr.heap.size := fun b hb' => (JH.out.J.H.line.lt hb').2
          have HVL := Lib.hid hvl
          have hcap6 : (Value.slice av A.length cv).ownBlock ≠ some wr.heap.size := fun e => by have := HVLT.out _ e; omega
          have HCP := Lib.hid hcap6
          have HQA := Lib.hid hqA
          unfold maxLen at hc6
          clear hLf e6 hq hvl hcap6 hqA
          go_wp2_with fail
          refine (KLAST.out _ _ _ _ _ JX.out.L (by omega)).mono ?_; rintro z w6 ⟨rfl, rfl⟩
          rw [HE6.out]
          go_wp2_with (at_builtin; refine wpList_append_line2 _ rfl _ _ 49 rfl W.heap.size 54 i0 _ 7 40 Try.underlying49 HI.1.out HI.2.1.out HI.2.2.1.out HI.2.2.2.out rfl (by decide) (.slice av A.length cv) _ A.length 1 (ents A) [.int .u16 x0, .int .i64 x1, .int .u32 x2, .int .u16 x3, .int .u32 x4, .int .u32 x5, .int .u16 x6] rfl rfl (JX.out.L.keep (by repeat (first | with_reducible exact Below.refl _ _ | (with_reducible refine Below.alloc ?_ ?_ _; rotate_left; focus ((try simp) <;> omega)) | (with_reducible refine Below.setCell ?_ ?_ _; rotate_left; focus ((try simp) <;> omega)) | (with_reducible refine below_grow ?_ ?_; rotate_left; focus ((try simp) <;> omega)) | (with_reducible refine below_putB ?_ ?_; rotate_left; focus ((try simp) <;> omega)) | with_reducible refine Below.drew ?_ | with_reducible refine below_drewN ?_ | with_reducible assumption | (with_reducible refine below_step (by assumption) ?_ ?_; rotate_left; focus ((try simp) <;> omega))))) (Src.one rfl (by simp [Value.oneCell']) (blk_at (cs := #[.int .u16 x0, .int .i64 x1, .int .u32 x2, .int .u16 x3, .int .u32 x4, .int .u32 x5, .int .u16 x6]) (t := 54) (by infer_instance))) (by unfold maxLen; omega) (by omega) (by first | omega | (simp; omega)) _ rfl ?_; intro v7 w7 hown7 hgrow7 hat7 hpre7)
          have bX7 : BlkIs w7 wr.heap.size #[.int .i64 0, .int .u16 x0, .int .i64 x1, .int .u32 x2, .int .u16 x3, .int .u32 x4, .int .u32 x5, .int .u16 x6] 56 := BlkIs.grown (by infer_instance) hgrow7 HCP.out
          have hPK : PlayK W w7 hb M v (.slice av A.length cv) v7 A (x0, x1, x2, x3, x4, x5, x6) := (JX.out.keep (by repeat (first | with_reducible exact Below.refl _ _ | (with_reducible refine Below.alloc ?_ ?_ _; rotate_left; focus ((try simp) <;> omega)) | (with_reducible refine Below.setCell ?_ ?_ _; rotate_left; focus ((try simp) <;> omega)) | (with_reducible refine below_grow ?_ ?_; rotate_left; focus ((try simp) <;> omega)) | (with_reducible refine below_putB ?_ ?_; rotate_left; focus ((try simp) <;> omega)) | with_reducible refine Below.drew ?_ | with_reducible refine below_drewN ?_ | with_reducible assumption | (with_reducible refine below_step (by assumption) ?_ ?_; rotate_left; focus ((try simp) <;> omega))))).app hown7 hpre7 hgrow7 hat7 (by simp)
          have hB7 : RowKit.Below W.heap.size W w7 := hPK.J.bel
          have hz7 : wr.heap.size < w7.heap.size := bX7.lt
          obtain ⟨a7, c7, rfl, _, _⟩ := hown7.shape
          obtain ⟨q', hq'⟩ : ∃ q', (lastE (A ++ [(x0, x1, x2, x3, x4, x5, x6)]) M).length = q' := ⟨_, rfl⟩
          have hqA' := lastE_len (A ++ [(x0, x1, x2, x3, x4, x5, x6)]) M
          rw [hq', List.length_append, List.length_singleton] at hqA'
          have hLn := lastLine (A := A ++ [(x0, x1, x2, x3, x4, x5, x6)]) (m := M) (by rw [List.length_append, List.length_singleton]; exact hPK.K) hq'
          rw [List.length_append, List.length_singleton] at hLn
          obtain ⟨a9, c9, e9, _, _⟩ := hLn.shape
          have HE9 := Lib.hid e9
          have HPK := Lib.hid hPK
          have HQA' := Lib.hid hqA'
          clear hown7 hgrow7 hat7 hpre7 hPK hLn e9 hq' hqA'
          go_wp2_with fail
          refine (KLAST.out _ _ _ _ _ HPK.out.K (by omega)).mono ?_; rintro z w6 ⟨rfl, rfl⟩
          rw [HE9.out]
          by_cases hAM : A.length < M
          · have iq : ((q' : Int) == (q : Int)) = false := by have := HQA.out; have := HQA'.out; rw [beq_eq_false_iff_ne]; omega
            have kp := pushInJ (e := (x0, x1, x2, x3, x4, x5, x6)) (X := w7) HPK.out.J (by rw [HQ.out, HQA.out]; omega) (Below.refl _ _)
            simp only [entC] at kp
            rw [← lastE_in A M _ hAM] at kp
            have KP := Lib.hid kp
            clear kp hAM
            go_wp2_with fail
            refine KP.out.mono ?_; rintro z w8 ⟨rfl, v8, J8, F8, hat8⟩
            have HPP := Lib.hid (HPK.out.pushed J8 F8 hat8)
            have bX8 : BlkIs w8 wr.heap.size #[.int .i64 0, .int .u16 x0, .int .i64 x1, .int .u32 x2, .int .u16 x3, .int .u32 x4, .int .u32 x5, .int .u16 x6] 56 := BlkIs.frame bX7 F8 (fun e => by rcases e with e | e; omega; have := HVL.out _ e; omega)
            clear J8 F8 hat8
            simp only [ent0]
            go_wp2_with fail
            go_meet
            exact ⟨v8, A ++ [(x0, x1, x2, x3, x4, x5, x6)], by simp; omega, HPP.out.play.keep (by repeat (first | with_reducible exact Below.refl _ _ | (with_reducible refine Below.alloc ?_ ?_ _; rotate_left; focus ((try simp) <;> omega)) | (with_reducible refine Below.setCell ?_ ?_ _; rotate_left; focus ((try simp) <;> omega)) | (with_reducible refine below_grow ?_ ?_; rotate_left; focus ((try simp) <;> omega)) | (with_reducible refine below_putB ?_ ?_; rotate_left; focus ((try simp) <;> omega)) | with_reducible refine Below.drew ?_ | with_reducible refine below_drewN ?_ | with_reducible assumption | (with_reducible refine below_step (by assumption) ?_ ?_; rotate_left; focus ((try simp) <;> omega))))⟩
          · have iq : ((q' : Int) == (q : Int)) = true := by have := HQA.out; have := HQA'.out; rw [beq_iff_eq]; omega
            obtain ⟨y, hyr⟩ := lastE_out A M (x0, x1, x2, x3, x4, x5, x6) (by omega)
            have kp := pushOutJ (e := (x0, x1, x2, x3, x4, x5, x6)) (X := w7) HPK.out.J (by rw [HQ.out, HQA.out]; omega) hyr (Below.refl _ _)
            obtain ⟨y0, y1, y2, y3, y4, y5, y6⟩ := y
            have hent : ents (lastE A M) ++ [.int .u16 x0, .int .i64 x1, .int .u32 x2, .int .u16 x3, .int .u32 x4, .int .u32 x5, .int .u16 x6] = ents ((y0, y1, y2, y3, y4, y5, y6) :: lastE (A ++ [(x0, x1, x2, x3, x4, x5, x6)]) M) := by
              rw [← hyr, ents_snoc]; rfl
            simp only [entC] at kp
            have KP := Lib.hid kp
            have HENT := Lib.hid hent
            clear kp hAM hyr hent
            go_wp2_with fail
            refine KP.out.mono ?_; rintro z w8 ⟨rfl, v8, J8, F8, hat8⟩
            have hPP := HPK.out.pushed J8 F8 hat8
            have hW8 := lastLine hPP.L HQ.out
            rw [HE6.out] at hW8
            have HPP := Lib.hid hPP
            have HW8 := Lib.hid hW8
            have hB8 := J8.bel.size
            have bX8 : BlkIs w8 wr.heap.size #[.int .i64 0, .int .u16 x0, .int .i64 x1, .int .u32 x2, .int .u16 x3, .int .u32 x4, .int .u32 x5, .int .u16 x6] 56 := BlkIs.frame bX7 F8 (fun e => by rcases e with e | e; omega; have := HVL.out _ e; omega)
            have hz8 := bX8.lt
            have iq0 : (0 : Int) < (q : Int) + 1 := by omega
            clear J8 F8 hat8 hPP hW8
            go_wp2_with fail
            refine wp_region_noPanic ?_
            refine wp_region_held_drew (S := (fun w' => BlkIs w' wr.heap.size #[.int .i64 0, .int .u16 x0, .int .i64 x1, .int .u32 x2, .int .u16 x3, .int .u32 x4, .int .u32 x5, .int .u16 x6] 56)) (by kernel_rfl) (by (try dsimp only); infer_instance) (fun hHeld => ?_)
            refine wpAnyH_take (i := 0) (oi := _) (v := ?_) (by simp only [List.getElem?_toArray, List.getElem?_cons_zero]; rfl) (by kernel_rfl) (by kernel_rfl) (by kernel_rfl) (fun _ _ _ h => h) (Or.inl ⟨by rfl, ?_⟩) (by assumption) ?_
            rotate_left
            focus (intro w hSw; (try dsimp only at hSw); go_simp; try with_reducible rfl)
            (try simp only [Act.put, List.setIfInBounds_toArray, List.set_cons_zero, List.set_cons_succ])
            refine wpAnyH_take (i := 2) (oi := _) (v := ?_) (by simp only [List.getElem?_toArray, List.getElem?_cons_succ, List.getElem?_cons_zero]; rfl) (by kernel_rfl) (by kernel_rfl) (by kernel_rfl) (fun _ _ _ h => h) (Or.inl ⟨by rfl, ?_⟩) (by assumption) ?_
            rotate_left
            focus (intro w hSw; (try dsimp only at hSw); go_simp; try with_reducible rfl)
            (try simp only [Act.put, List.setIfInBounds_toArray, List.set_cons_zero, List.set_cons_succ])
            refine wpAnyH_take (i := 3) (oi := _) (v := ?_) (by simp only [List.getElem?_toArray, List.getElem?_cons_succ, List.getElem?_cons_zero]; rfl) (by kernel_rfl) (by kernel_rfl) (by kernel_rfl) (fun _ _ _ h => h) (Or.inl ⟨by rfl, ?_⟩) (by assumption) ?_
            rotate_left
            focus (intro w hSw; (try dsimp only at hSw); go_simp; try with_reducible rfl)
            (try simp only [Act.put, List.setIfInBounds_toArray, List.set_cons_zero, List.set_cons_succ])
            refine wpAnyH_ready (rs := [1, 4]) (by kernel_rfl) (by simp) ?_
            refine AllReadyH.cons (o := _) (by simp only [List.getElem?_toArray, List.getElem?_cons_succ, List.getElem?_cons_zero]; rfl) (fun K hK => ?_) (AllReadyH.cons (o := _) (by simp only [List.getElem?_toArray, List.getElem?_cons_succ, List.getElem?_cons_zero]; rfl) (fun K hK => ?_) AllReadyH.nil)
            · (refine step_append_line2 _ (by rfl) _ _ 49 (by rfl) W.heap.size 54 i0 _ 7 40 Try.underlying49 HI.1.out HI.2.1.out HI.2.2.1.out HI.2.2.2.out rfl (by decide) (.slice none 0 0) _ 0 q [] (ents (lastE A M)) (by rfl) (by rfl) (Line.nil _ _ _) ((Has.of_line (HW8.out.keep (by repeat (first | with_reducible exact Below.refl _ _ | (with_reducible refine Below.alloc ?_ ?_ _; rotate_left; focus ((try simp) <;> omega)) | (with_reducible refine Below.setCell ?_ ?_ _; rotate_left; focus ((try simp) <;> omega)) | (with_reducible refine below_grow ?_ ?_; rotate_left; focus ((try simp) <;> omega)) | (with_reducible refine below_putB ?_ ?_; rotate_left; focus ((try simp) <;> omega)) | with_reducible refine Below.drew ?_ | with_reducible refine below_drewN ?_ | with_reducible assumption | (with_reducible refine below_step (by assumption) ?_ ?_; rotate_left; focus ((try simp) <;> omega)))))).src' (ents_one _)) (by unfold maxLen; omega) (by omega) (by first | omega | (simp; omega)) _ rfl ?_; intro v10 w10 hown10 hgrow10 hat10 hpre10; have hb10 : RowKit.Below _ _ w10 := RowKit.Below.grown (w := _) (Below.refl _ _) hgrow10 (Nat.le_refl _) (fun q hq => by simp [Value.ownBlock] at hq); have ha10 : After _ w10 := ⟨hb10⟩; have hz10 := hb10.size; try simp at hz10; have h10own : ∀ q, v10.ownBlock = some q → w8.heap.size + 2 ≤ q := (fun q hq => by rcases hat10 with h | h; (rw [h] at hq; simp [Value.ownBlock] at hq); (rw [h] at hq; simp at hq; omega)); rw [List.nil_append, Nat.zero_add] at hown10; have H10 := Lib.hid hown10; have HO10 := Lib.hid h10own; clear hown10 hgrow10 hat10 hpre10 h10own)
              refine hK.out _ _ (by (try dsimp only); infer_instance) (fun hHeld => ?_)
              clear hK K
              (try simp only [Act.put, List.setIfInBounds_toArray, List.set_cons_zero, List.set_cons_succ])
              refine wpAnyH_ready (rs := [4]) (by kernel_rfl) (by simp) ?_
              refine AllReadyH.cons (o := _) (by simp only [List.getElem?_toArray, List.getElem?_cons_succ, List.getElem?_cons_zero]; rfl) (fun K hK => ?_) AllReadyH.nil
              go_simp
              refine hK.out _ _ (by (try dsimp only); infer_instance) (fun hHeld => ?_)
              clear hK K
              (try simp only [Act.put, List.setIfInBounds_toArray, List.set_cons_zero, List.set_cons_succ])
              refine wpAnyH_ready (rs := [5]) (by kernel_rfl) (by simp) ?_
              refine AllReadyH.cons (o := _) (by simp only [List.getElem?_toArray, List.getElem?_cons_succ, List.getElem?_cons_zero]; rfl) (fun K hK => ?_) AllReadyH.nil
              (refine step_append_line2 _ (by rfl) _ _ 49 (by rfl) W.heap.size 54 i0 _ 7 40 Try.underlying49 HI.1.out HI.2.1.out HI.2.2.1.out HI.2.2.2.out rfl (by decide) v10 _ q 1 (ents (lastE A M)) [.int .u16 x0, .int .i64 x1, .int .u32 x2, .int .u16 x3, .int .u32 x4, .int .u32 x5, .int .u16 x6] (by rfl) (by rfl) (H10.out.keep (by repeat (first | with_reducible exact Below.refl _ _ | (with_reducible refine Below.alloc ?_ ?_ _; rotate_left; focus ((try simp) <;> omega)) | (with_reducible refine Below.setCell ?_ ?_ _; rotate_left; focus ((try simp) <;> omega)) | (with_reducible refine below_grow ?_ ?_; rotate_left; focus ((try simp) <;> omega)) | (with_reducible refine below_putB ?_ ?_; rotate_left; focus ((try simp) <;> omega)) | with_reducible refine Below.drew ?_ | with_reducible refine below_drewN ?_ | with_reducible assumption | (with_reducible refine below_step (by assumption) ?_ ?_; rotate_left; focus ((try simp) <;> omega))))) (Src.one rfl (by simp [Value.oneCell']) (blk_at (cs := #[.int .u16 x0, .int .i64 x1, .int .u32 x2, .int .u16 x3, .int .u32 x4, .int .u32 x5, .int .u16 x6]) (t := 54) (by infer_instance))) (by unfold maxLen; omega) (by omega) (by first | omega | (simp; omega)) _ rfl ?_; intro v11 w11 hown11 hgrow11 hat11 hpre11; have bX11 : BlkIs w11 wr.heap.size #[.int .i64 0, .int .u16 x0, .int .i64 x1, .int .u32 x2, .int .u16 x3, .int .u32 x4, .int .u32 x5, .int .u16 x6] 56 := BlkIs.grown (by infer_instance) hgrow11 (fun e => by have := HO10.out _ e; omega); have b11a : BlkIs w11 w8.heap.size #[.int .u16 y0, .int .i64 y1, .int .u32 y2, .int .u16 y3, .int .u32 y4, .int .u32 y5, .int .u16 y6] 54 := BlkIs.grown (by infer_instance) hgrow11 (fun e => by have := HO10.out _ e; omega); have b11b : BlkIs w11 (w8.heap.size + 1) #[.int .u16 0, .int .i64 0, .int .u32 0, .int .u16 0, .int .u32 0, .int .u32 0, .int .u16 0] 54 := BlkIs.grown (by infer_instance) hgrow11 (fun e => by have := HO10.out _ e; omega); have hB11 : RowKit.Below w8.heap.size w8 w11 := RowKit.Below.grown (w := _) (by repeat (first | with_reducible exact Below.refl _ _ | (with_reducible refine Below.alloc ?_ ?_ _; rotate_left; focus ((try simp) <;> omega)) | (with_reducible refine Below.setCell ?_ ?_ _; rotate_left; focus ((try simp) <;> omega)) | (with_reducible refine below_grow ?_ ?_; rotate_left; focus ((try simp) <;> omega)) | (with_reducible refine below_putB ?_ ?_; rotate_left; focus ((try simp) <;> omega)) | with_reducible refine Below.drew ?_ | with_reducible refine below_drewN ?_ | with_reducible assumption | (with_reducible refine below_step (by assumption) ?_ ?_; rotate_left; focus ((try simp) <;> omega)))) hgrow11 (by first | omega | (simp; omega)) (fun q hq => by have := HO10.out q hq; omega); have hL11 : Line w11 W.heap.size 7 v11 (q + 1) (ents ((y0, y1, y2, y3, y4, y5, y6) :: lastE (A ++ [(x0, x1, x2, x3, x4, x5, x6)]) M)) := (by have h := hown11; rw [HENT.out] at h; exact h); obtain ⟨g11, o11, c11, rfl, _, hg11, _, _⟩ := hL11.form (by omega); have og11 : Old g11 w11 := ⟨hg11⟩; have p0 := hL11.cell (j := 0) (u := .int .u16 y0) (by simp [ents, entC]); have p1 := hL11.cell (j := 1) (u := .int .i64 y1) (by simp [ents, entC]); have p2 := hL11.cell (j := 2) (u := .int .u32 y2) (by simp [ents, entC]); have p3 := hL11.cell (j := 3) (u := .int .u16 y3) (by simp [ents, entC]); have p4 := hL11.cell (j := 4) (u := .int .u32 y4) (by simp [ents, entC]); have p5 := hL11.cell (j := 5) (u := .int .u32 y5) (by simp [ents, entC]); have p6 := hL11.cell (j := 6) (u := .int .u16 y6) (by simp [ents, entC]); rw [Nat.add_zero] at p0; clear hown11 hgrow11 hat11 hpre11 hL11)
              refine hK.out _ _ (by (try dsimp only); infer_instance) (fun hHeld => ?_)
              clear hK K
              (try simp only [Act.put, List.setIfInBounds_toArray, List.set_cons_zero, List.set_cons_succ])
              refine wpAnyH_take (i := 6) (oi := _) (v := ?_) (by simp only [List.getElem?_toArray, List.getElem?_cons_succ, List.getElem?_cons_zero]; rfl) (by kernel_rfl) (by kernel_rfl) (by kernel_rfl) (fun _ _ _ h => h) (Or.inl ⟨by rfl, ?_⟩) (by assumption) ?_
              rotate_left
              focus (intro w hSw; (try dsimp only at hSw); go_simp; try with_reducible rfl)
              (try simp only [Act.put, List.setIfInBounds_toArray, List.set_cons_zero, List.set_cons_succ])
              refine wpAnyH_ready (rs := [7]) (by kernel_rfl) (by simp) ?_
              refine AllReadyH.cons (o := _) (by simp only [List.getElem?_toArray, List.getElem?_cons_succ, List.getElem?_cons_zero]; rfl) (fun K hK => ?_) AllReadyH.nil
              go_simp
              refine hK.out _ _ (by (try dsimp only); infer_instance) (fun hHeld => ?_)
              clear hK K
              (try simp only [Act.put, List.setIfInBounds_toArray, List.set_cons_zero, List.set_cons_succ])
              refine wpAnyH_ready (rs := [8]) (by kernel_rfl) (by simp) ?_
              refine AllReadyH.cons (o := _) (by simp only [List.getElem?_toArray, List.getElem?_cons_succ, List.getElem?_cons_zero]; rfl) (fun K hK => ?_) AllReadyH.nil
              go_simp
              refine hK.out _ _ (by (try dsimp only); infer_instance) (fun hHeld => ?_)
              clear hK K
              (try simp only [Act.put, List.setIfInBounds_toArray, List.set_cons_zero, List.set_cons_succ])
              refine wpAnyH_done (by kernel_rfl) ?_ _
              refine NoPanic.normal ?_
              go_wp2_with fail
              go_meet
              exact ⟨v8, A ++ [(x0, x1, x2, x3, x4, x5, x6)], by simp; omega, HPP.out.play.keep (by repeat (first | with_reducible exact Below.refl _ _ | (with_reducible refine Below.alloc ?_ ?_ _; rotate_left; focus ((try simp) <;> omega)) | (with_reducible refine Below.setCell ?_ ?_ _; rotate_left; focus ((try simp) <;> omega)) | (with_reducible refine below_grow ?_ ?_; rotate_left; focus ((try simp) <;> omega)) | (with_reducible refine below_putB ?_ ?_; rotate_left; focus ((try simp) <;> omega)) | with_reducible refine Below.drew ?_ | with_reducible refine below_drewN ?_ | with_reducible assumption | (with_reducible refine below_step (by assumption) ?_ ?_; rotate_left; focus ((try simp) <;> omega))))⟩
            · go_simp
              refine hK.out _ _ (by (try dsimp only); infer_instance) (fun hHeld => ?_)
              clear hK K
              (try simp only [Act.put, List.setIfInBounds_toArray, List.set_cons_zero, List.set_cons_succ])
              refine wpAnyH_ready (rs := [1]) (by kernel_rfl) (by simp) ?_
              refine AllReadyH.cons (o := _) (by simp only [List.getElem?_toArray, List.getElem?_cons_succ, List.getElem?_cons_zero]; rfl) (fun K hK => ?_) AllReadyH.nil
              (refine step_append_line2 _ (by rfl) _ _ 49 (by rfl) W.heap.size 54 i0 _ 7 40 Try.underlying49 HI.1.out HI.2.1.out HI.2.2.1.out HI.2.2.2.out rfl (by decide) (.slice none 0 0) _ 0 q [] (ents (lastE A M)) (by rfl) (by rfl) (Line.nil _ _ _) ((Has.of_line (HW8.out.keep (by repeat (first | with_reducible exact Below.refl _ _ | (with_reducible refine Below.alloc ?_ ?_ _; rotate_left; focus ((try simp) <;> omega)) | (with_reducible refine Below.setCell ?_ ?_ _; rotate_left; focus ((try simp) <;> omega)) | (with_reducible refine below_grow ?_ ?_; rotate_left; focus ((try simp) <;> omega)) | (with_reducible refine below_putB ?_ ?_; rotate_left; focus ((try simp) <;> omega)) | with_reducible refine Below.drew ?_ | with_reducible refine below_drewN ?_ | with_reducible assumption | (with_reducible refine below_step (by assumption) ?_ ?_; rotate_left; focus ((try simp) <;> omega)))))).src' (ents_one _)) (by unfold maxLen; omega) (by omega) (by first | omega | (simp; omega)) _ rfl ?_; intro v10 w10 hown10 hgrow10 hat10 hpre10; have hb10 : RowKit.Below _ _ w10 := RowKit.Below.grown (w := _) (Below.refl _ _) hgrow10 (Nat.le_refl _) (fun q hq => by simp [Value.ownBlock] at hq); have ha10 : After _ w10 := ⟨hb10⟩; have hz10 := hb10.size; try simp at hz10; have h10own : ∀ q, v10.ownBlock = some q → w8.heap.size + 2 ≤ q := (fun q hq => by rcases hat10 with h | h; (rw [h] at hq; simp [Value.ownBlock] at hq); (rw [h] at hq; simp at hq; omega)); rw [List.nil_append, Nat.zero_add] at hown10; have H10 := Lib.hid hown10; have HO10 := Lib.hid h10own; clear hown10 hgrow10 hat10 hpre10 h10own)
              refine hK.out _ _ (by (try dsimp only); infer_instance) (fun hHeld => ?_)
              clear hK K
              (try simp only [Act.put, List.setIfInBounds_toArray, List.set_cons_zero, List.set_cons_succ])
              refine wpAnyH_ready (rs := [5]) (by kernel_rfl) (by simp) ?_
              refine AllReadyH.cons (o := _) (by simp only [List.getElem?_toArray, List.getElem?_cons_succ, List.getElem?_cons_zero]; rfl) (fun K hK => ?_) AllReadyH.nil
              (refine step_append_line2 _ (by rfl) _ _ 49 (by rfl) W.heap.size 54 i0 _ 7 40 Try.underlying49 HI.1.out HI.2.1.out HI.2.2.1.out HI.2.2.2.out rfl (by decide) v10 _ q 1 (ents (lastE A M)) [.int .u16 x0, .int .i64 x1, .int .u32 x2, .int .u16 x3, .int .u32 x4, .int .u32 x5, .int .u16 x6] (by rfl) (by rfl) (H10.out.keep (by repeat (first | with_reducible exact Below.refl _ _ | (with_reducible refine Below.alloc ?_ ?_ _; rotate_left; focus ((try simp) <;> omega)) | (with_reducible refine Below.setCell ?_ ?_ _; rotate_left; focus ((try simp) <;> omega)) | (with_reducible refine below_grow ?_ ?_; rotate_left; focus ((try simp) <;> omega)) | (with_reducible refine below_putB ?_ ?_; rotate_left; focus ((try simp) <;> omega)) | with_reducible refine Below.drew ?_ | with_reducible refine below_drewN ?_ | with_reducible assumption | (with_reducible refine below_step (by assumption) ?_ ?_; rotate_left; focus ((try simp) <;> omega))))) (Src.one rfl (by simp [Value.oneCell']) (blk_at (cs := #[.int .u16 x0, .int .i64 x1, .int .u32 x2, .int .u16 x3, .int .u32 x4, .int .u32 x5, .int .u16 x6]) (t := 54) (by infer_instance))) (by unfold maxLen; omega) (by omega) (by first | omega | (simp; omega)) _ rfl ?_; intro v11 w11 hown11 hgrow11 hat11 hpre11; have bX11 : BlkIs w11 wr.heap.size #[.int .i64 0, .int .u16 x0, .int .i64 x1, .int .u32 x2, .int .u16 x3, .int .u32 x4, .int .u32 x5, .int .u16 x6] 56 := BlkIs.grown (by infer_instance) hgrow11 (fun e => by have := HO10.out _ e; omega); have b11a : BlkIs w11 w8.heap.size #[.int .u16 y0, .int .i64 y1, .int .u32 y2, .int .u16 y3, .int .u32 y4, .int .u32 y5, .int .u16 y6] 54 := BlkIs.grown (by infer_instance) hgrow11 (fun e => by have := HO10.out _ e; omega); have b11b : BlkIs w11 (w8.heap.size + 1) #[.int .u16 0, .int .i64 0, .int .u32 0, .int .u16 0, .int .u32 0, .int .u32 0, .int .u16 0] 54 := BlkIs.grown (by infer_instance) hgrow11 (fun e => by have := HO10.out _ e; omega); have hB11 : RowKit.Below w8.heap.size w8 w11 := RowKit.Below.grown (w := _) (by repeat (first | with_reducible exact Below.refl _ _ | (with_reducible refine Below.alloc ?_ ?_ _; rotate_left; focus ((try simp) <;> omega)) | (with_reducible refine Below.setCell ?_ ?_ _; rotate_left; focus ((try simp) <;> omega)) | (with_reducible refine below_grow ?_ ?_; rotate_left; focus ((try simp) <;> omega)) | (with_reducible refine below_putB ?_ ?_; rotate_left; focus ((try simp) <;> omega)) | with_reducible refine Below.drew ?_ | with_reducible refine below_drewN ?_ | with_reducible assumption | (with_reducible refine below_step (by assumption) ?_ ?_; rotate_left; focus ((try simp) <;> omega)))) hgrow11 (by first | omega | (simp; omega)) (fun q hq => by have := HO10.out q hq; omega); have hL11 : Line w11 W.heap.size 7 v11 (q + 1) (ents ((y0, y1, y2, y3, y4, y5, y6) :: lastE (A ++ [(x0, x1, x2, x3, x4, x5, x6)]) M)) := (by have h := hown11; rw [HENT.out] at h; exact h); obtain ⟨g11, o11, c11, rfl, _, hg11, _, _⟩ := hL11.form (by omega); have og11 : Old g11 w11 := ⟨hg11⟩; have p0 := hL11.cell (j := 0) (u := .int .u16 y0) (by simp [ents, entC]); have p1 := hL11.cell (j := 1) (u := .int .i64 y1) (by simp [ents, entC]); have p2 := hL11.cell (j := 2) (u := .int .u32 y2) (by simp [ents, entC]); have p3 := hL11.cell (j := 3) (u := .int .u16 y3) (by simp [ents, entC]); have p4 := hL11.cell (j := 4) (u := .int .u32 y4) (by simp [ents, entC]); have p5 := hL11.cell (j := 5) (u := .int .u32 y5) (by simp [ents, entC]); have p6 := hL11.cell (j := 6) (u := .int .u16 y6) (by simp [ents, entC]); rw [Nat.add_zero] at p0; clear hown11 hgrow11 hat11 hpre11 hL11)
              refine hK.out _ _ (by (try dsimp only); infer_instance) (fun hHeld => ?_)
              clear hK K
              (try simp only [Act.put, List.setIfInBounds_toArray, List.set_cons_zero, List.set_cons_succ])
              refine wpAnyH_take (i := 6) (oi := _) (v := ?_) (by simp only [List.getElem?_toArray, List.getElem?_cons_succ, List.getElem?_cons_zero]; rfl) (by kernel_rfl) (by kernel_rfl) (by kernel_rfl) (fun _ _ _ h => h) (Or.inl ⟨by rfl, ?_⟩) (by assumption) ?_
              rotate_left
              focus (intro w hSw; (try dsimp only at hSw); go_simp; try with_reducible rfl)
              (try simp only [Act.put, List.setIfInBounds_toArray, List.set_cons_zero, List.set_cons_succ])
              refine wpAnyH_ready (rs := [7]) (by kernel_rfl) (by simp) ?_
              refine AllReadyH.cons (o := _) (by simp only [List.getElem?_toArray, List.getElem?_cons_succ, List.getElem?_cons_zero]; rfl) (fun K hK => ?_) AllReadyH.nil
              go_simp
              refine hK.out _ _ (by (try dsimp only); infer_instance) (fun hHeld => ?_)
              clear hK K
              (try simp only [Act.put, List.setIfInBounds_toArray, List.set_cons_zero, List.set_cons_succ])
              refine wpAnyH_ready (rs := [8]) (by kernel_rfl) (by simp) ?_
              refine AllReadyH.cons (o := _) (by simp only [List.getElem?_toArray, List.getElem?_cons_succ, List.getElem?_cons_zero]; rfl) (fun K hK => ?_) AllReadyH.nil
              go_simp
              refine hK.out _ _ (by (try dsimp only); infer_instance) (fun hHeld => ?_)
              clear hK K
              (try simp only [Act.put, List.setIfInBounds_toArray, List.set_cons_zero, List.set_cons_succ])
              refine wpAnyH_done (by kernel_rfl) ?_ _
              refine NoPanic.normal ?_
              go_wp2_with fail
              go_meet
              exact ⟨v8, A ++ [(x0, x1, x2, x3, x4, x5, x6)], by simp; omega, HPP.out.play.keep (by repeat (first | with_reducible exact Below.refl _ _ | (with_reducible refine Below.alloc ?_ ?_ _; rotate_left; focus ((try simp) <;> omega)) | (with_reducible refine Below.setCell ?_ ?_ _; rotate_left; focus ((try simp) <;> omega)) | (with_reducible refine below_grow ?_ ?_; rotate_left; focus ((try simp) <;> omega)) | (with_reducible refine below_putB ?_ ?_; rotate_left; focus ((try simp) <;> omega)) | with_reducible refine Below.drew ?_ | with_reducible refine below_drewN ?_ | with_reducible assumption | (with_reducible refine below_step (by assumption) ?_ ?_; rotate_left; focus ((try simp) <;> omega))))⟩
        · by_cases hk1 : kind = 1
          · subst hk1
            obtain ⟨q, hq⟩ : ∃ q, (lastE A M).length = q := ⟨_, rfl⟩
            have hq2 : q ≤ 64 := by have := lastE_le A M; omega
            have hLf := lastLine JX.out.L hq
            obtain ⟨a6, c6, e6, _, _⟩ := hLf.shape
            rw [e6] at hLf
            have HLF := Lib.hid hLf
            have HE6 := Lib.hid e6
            have HQ := Lib.hid hq
            have kf := findJ (s := x0) JX.out.J (Below.refl _ _)
            obtain ⟨f0, f1, f2, f3, f4, f5, f6, fb, hfv⟩ := findV_form (lastE A M) x0
            rw [hfv] at kf
            have KF := Lib.hid kf
            have HFV := Lib.hid hfv
            clear hLf e6 hq kf hfv
            go_wp2_with fail
            refine KF.out.mono ?_; rintro z w5 ⟨rfl, hb5⟩; have ha5 : After _ w5 := ⟨hb5⟩; have hz5 := hb5.size
            go_wp2_with fail
            refine wp_region_noPanic ?_
            refine wp_region_held_drew (S := (fun w' => BlkIs w' wr.heap.size #[.int .i64 1, .int .u16 x0, .int .i64 x1, .int .u32 x2, .int .u16 x3, .int .u32 x4, .int .u32 x5, .int .u16 x6] 56)) (by kernel_rfl) (by (try dsimp only); infer_instance) (fun hHeld => ?_)
            refine wpAnyH_take (i := 0) (oi := _) (v := ?_) (by simp only [List.getElem?_toArray, List.getElem?_cons_zero]; rfl) (by kernel_rfl) (by kernel_rfl) (by kernel_rfl) (fun _ _ _ h => h) (Or.inl ⟨by rfl, ?_⟩) (by assumption) ?_
            rotate_left
            focus (intro w hSw; (try dsimp only at hSw); go_simp; try with_reducible rfl)
            (try simp only [Act.put, List.setIfInBounds_toArray, List.set_cons_zero, List.set_cons_succ])
            refine wpAnyH_take (i := 1) (oi := _) (v := ?_) (by simp only [List.getElem?_toArray, List.getElem?_cons_succ, List.getElem?_cons_zero]; rfl) (by kernel_rfl) (by kernel_rfl) (by kernel_rfl) (fun _ _ _ h => h) (Or.inl ⟨by rfl, ?_⟩) (by assumption) ?_
            rotate_left
            focus (intro w hSw; (try dsimp only at hSw); go_simp; try with_reducible rfl)
            (try simp only [Act.put, List.setIfInBounds_toArray, List.set_cons_zero, List.set_cons_succ])
            refine wpAnyH_take (i := 3) (oi := _) (v := ?_) (by simp only [List.getElem?_toArray, List.getElem?_cons_succ, List.getElem?_cons_zero]; rfl) (by kernel_rfl) (by kernel_rfl) (by kernel_rfl) (fun _ _ _ h => h) (Or.inl ⟨by rfl, ?_⟩) (by assumption) ?_
            rotate_left
            focus (intro w hSw; (try dsimp only at hSw); go_simp; try with_reducible rfl)
            (try simp only [Act.put, List.setIfInBounds_toArray, List.set_cons_zero, List.set_cons_succ])
            refine wpAnyH_take (i := 4) (oi := _) (v := ?_) (by simp only [List.getElem?_toArray, List.getElem?_cons_succ, List.getElem?_cons_zero]; rfl) (by kernel_rfl) (by kernel_rfl) (by kernel_rfl) (fun _ _ _ h => h) (Or.inl ⟨by rfl, ?_⟩) (by assumption) ?_
            rotate_left
            focus (intro w hSw; (try dsimp only at hSw); go_simp; try with_reducible rfl)
            (try simp only [Act.put, List.setIfInBounds_toArray, List.set_cons_zero, List.set_cons_succ])
            refine wpAnyH_take (i := 5) (oi := _) (v := ?_) (by simp only [List.getElem?_toArray, List.getElem?_cons_succ, List.getElem?_cons_zero]; rfl) (by kernel_rfl) (by kernel_rfl) (by kernel_rfl) (fun _ _ _ h => h) (Or.inl ⟨by rfl, ?_⟩) (by assumption) ?_
            rotate_left
            focus (intro w hSw; (try dsimp only at hSw); go_simp; try with_reducible rfl)
            (try simp only [Act.put, List.setIfInBounds_toArray, List.set_cons_zero, List.set_cons_succ])
            refine wpAnyH_ready (rs := [2, 10]) (by kernel_rfl) (by simp) ?_
            refine AllReadyH.cons (o := _) (by simp only [List.getElem?_toArray, List.getElem?_cons_succ, List.getElem?_cons_zero]; rfl) (fun K hK => ?_) (AllReadyH.cons (o := _) (by simp only [List.getElem?_toArray, List.getElem?_cons_succ, List.getElem?_cons_zero]; rfl) (fun K hK => ?_) AllReadyH.nil)
            · go_simp
              (refine (KLAST.out _ _ _ _ _ (JX.out.L.keep (by repeat (first | with_reducible exact Below.refl _ _ | (with_reducible refine Below.alloc ?_ ?_ _; rotate_left; focus ((try simp) <;> omega)) | (with_reducible refine Below.setCell ?_ ?_ _; rotate_left; focus ((try simp) <;> omega)) | (with_reducible refine below_grow ?_ ?_; rotate_left; focus ((try simp) <;> omega)) | (with_reducible refine below_putB ?_ ?_; rotate_left; focus ((try simp) <;> omega)) | with_reducible refine Below.drew ?_ | with_reducible refine below_drewN ?_ | with_reducible assumption | (with_reducible refine below_step (by assumption) ?_ ?_; rotate_left; focus ((try simp) <;> omega))))) (by omega)).mono ?_; rintro z w6 ⟨rfl, rfl⟩; rw [HE6.out])
              try go_wp2_with fail
              refine hK.out _ _ (by (try dsimp only); infer_instance) (fun hHeld => ?_)
              clear hK K
              (try simp only [Act.put, List.setIfInBounds_toArray, List.set_cons_zero, List.set_cons_succ])
              refine wpAnyH_ready (rs := [6, 10]) (by kernel_rfl) (by simp) ?_
              refine AllReadyH.cons (o := _) (by simp only [List.getElem?_toArray, List.getElem?_cons_succ, List.getElem?_cons_zero]; rfl) (fun K hK => ?_) (AllReadyH.cons (o := _) (by simp only [List.getElem?_toArray, List.getElem?_cons_succ, List.getElem?_cons_zero]; rfl) (fun K hK => ?_) AllReadyH.nil)
              · go_simp
                (refine (refFindR (Has.of_line (HLF.out.keep (by repeat (first | with_reducible exact Below.refl _ _ | (with_reducible refine Below.alloc ?_ ?_ _; rotate_left; focus ((try simp) <;> omega)) | (with_reducible refine Below.setCell ?_ ?_ _; rotate_left; focus ((try simp) <;> omega)) | (with_reducible refine below_grow ?_ ?_; rotate_left; focus ((try simp) <;> omega)) | (with_reducible refine below_putB ?_ ?_; rotate_left; focus ((try simp) <;> omega)) | with_reducible refine Below.drew ?_ | with_reducible refine below_drewN ?_ | with_reducible assumption | (with_reducible refine below_step (by assumption) ?_ ?_; rotate_left; focus ((try simp) <;> omega)))))) HQ.out (by omega)).mono ?_; rintro z w8 ⟨rfl, hb8⟩; have ha8 : After _ w8 := ⟨hb8⟩; have hz8 := hb8.size; try simp at hz8; rw [HFV.out])
                try go_wp2_with fail
                refine hK.out _ _ (by (try dsimp only); infer_instance) (fun hHeld => ?_)
                clear hK K
                (try simp only [Act.put, List.setIfInBounds_toArray, List.set_cons_zero, List.set_cons_succ])
                refine wpAnyH_take (i := 7) (oi := _) (v := ?_) (by simp only [List.getElem?_toArray, List.getElem?_cons_succ, List.getElem?_cons_zero]; rfl) (by kernel_rfl) (by kernel_rfl) (by kernel_rfl) (fun _ _ _ h => h) (Or.inl ⟨by rfl, ?_⟩) (by assumption) ?_
                rotate_left
                focus (intro w hSw; (try dsimp only at hSw); go_simp; try with_reducible rfl)
                (try simp only [Act.put, List.setIfInBounds_toArray, List.set_cons_zero, List.set_cons_succ])
                refine wpAnyH_take (i := 8) (oi := _) (v := ?_) (by simp only [List.getElem?_toArray, List.getElem?_cons_succ, List.getElem?_cons_zero]; rfl) (by kernel_rfl) (by kernel_rfl) (by kernel_rfl) (fun _ _ _ h => h) (Or.inl ⟨by rfl, ?_⟩) (by assumption) ?_
                rotate_left
                focus (intro w hSw; (try dsimp only at hSw); go_simp; try with_reducible rfl)
                (try simp only [Act.put, List.setIfInBounds_toArray, List.set_cons_zero, List.set_cons_succ])
                refine wpAnyH_take (i := 9) (oi := _) (v := ?_) (by simp only [List.getElem?_toArray, List.getElem?_cons_succ, List.getElem?_cons_zero]; rfl) (by kernel_rfl) (by kernel_rfl) (by kernel_rfl) (fun _ _ _ h => h) (Or.inl ⟨by rfl, ?_⟩) (by assumption) ?_
                rotate_left
                focus (intro w hSw; (try dsimp only at hSw); go_simp; try with_reducible rfl)
                (try simp only [Act.put, List.setIfInBounds_toArray, List.set_cons_zero, List.set_cons_succ])
                refine wpAnyH_ready (rs := [10]) (by kernel_rfl) (by simp) ?_
                refine AllReadyH.cons (o := _) (by simp only [List.getElem?_toArray, List.getElem?_cons_succ, List.getElem?_cons_zero]; rfl) (fun K hK => ?_) AllReadyH.nil
                go_simp
                refine hK.out _ _ (by (try dsimp only); infer_instance) (fun hHeld => ?_)
                clear hK K
                (try simp only [Act.put, List.setIfInBounds_toArray, List.set_cons_zero, List.set_cons_succ])
                refine wpAnyH_ready (rs := [11]) (by kernel_rfl) (by simp) ?_
                refine AllReadyH.cons (o := _) (by simp only [List.getElem?_toArray, List.getElem?_cons_succ, List.getElem?_cons_zero]; rfl) (fun K hK => ?_) AllReadyH.nil
                go_simp
                refine hK.out _ _ (by (try dsimp only); infer_instance) (fun hHeld => ?_)
                clear hK K
                (try simp only [Act.put, List.setIfInBounds_toArray, List.set_cons_zero, List.set_cons_succ])
                refine wpAnyH_take (i := 12) (oi := _) (v := ?_) (by simp only [List.getElem?_toArray, List.getElem?_cons_succ, List.getElem?_cons_zero]; rfl) (by kernel_rfl) (by kernel_rfl) (by kernel_rfl) (fun _ _ _ h => h) (Or.inl ⟨by rfl, ?_⟩) (by assumption) ?_
                rotate_left
                focus (intro w hSw; (try dsimp only at hSw); go_simp; try with_reducible rfl)
                (try simp only [Act.put, List.setIfInBounds_toArray, List.set_cons_zero, List.set_cons_succ])
                refine wpAnyH_done (by kernel_rfl) ?_ _
                refine NoPanic.normal ?_
                go_wp2_with fail
                go_meet
                exact ⟨v, A, by omega, JX.out.keep (by repeat (first | with_reducible exact Below.refl _ _ | (with_reducible refine Below.alloc ?_ ?_ _; rotate_left; focus ((try simp) <;> omega)) | (with_reducible refine Below.setCell ?_ ?_ _; rotate_left; focus ((try simp) <;> omega)) | (with_reducible refine below_grow ?_ ?_; rotate_left; focus ((try simp) <;> omega)) | (with_reducible refine below_putB ?_ ?_; rotate_left; focus ((try simp) <;> omega)) | with_reducible refine Below.drew ?_ | with_reducible refine below_drewN ?_ | with_reducible assumption | (with_reducible refine below_step (by assumption) ?_ ?_; rotate_left; focus ((try simp) <;> omega))))⟩
              · go_simp
                refine hK.out _ _ (by (try dsimp only); infer_instance) (fun hHeld => ?_)
                clear hK K
                (try simp only [Act.put, List.setIfInBounds_toArray, List.set_cons_zero, List.set_cons_succ])
                refine wpAnyH_ready (rs := [6]) (by kernel_rfl) (by simp) ?_
                refine AllReadyH.cons (o := _) (by simp only [List.getElem?_toArray, List.getElem?_cons_succ, List.getElem?_cons_zero]; rfl) (fun K hK => ?_) AllReadyH.nil
                go_simp
                (refine (refFindR (Has.of_line (HLF.out.keep (by repeat (first | with_reducible exact Below.refl _ _ | (with_reducible refine Below.alloc ?_ ?_ _; rotate_left; focus ((try simp) <;> omega)) | (with_reducible refine Below.setCell ?_ ?_ _; rotate_left; focus ((try simp) <;> omega)) | (with_reducible refine below_grow ?_ ?_; rotate_left; focus ((try simp) <;> omega)) | (with_reducible refine below_putB ?_ ?_; rotate_left; focus ((try simp) <;> omega)) | with_reducible refine Below.drew ?_ | with_reducible refine below_drewN ?_ | with_reducible assumption | (with_reducible refine below_step (by assumption) ?_ ?_; rotate_left; focus ((try simp) <;> omega)))))) HQ.out (by omega)).mono ?_; rintro z w8 ⟨rfl, hb8⟩; have ha8 : After _ w8 := ⟨hb8⟩; have hz8 := hb8.size; try simp at hz8; rw [HFV.out])
                try go_wp2_with fail
                refine hK.out _ _ (by (try dsimp only); infer_instance) (fun hHeld => ?_)
                clear hK K
                (try simp only [Act.put, List.setIfInBounds_toArray, List.set_cons_zero, List.set_cons_succ])
                refine wpAnyH_take (i := 7) (oi := _) (v := ?_) (by simp only [List.getElem?_toArray, List.getElem?_cons_succ, List.getElem?_cons_zero]; rfl) (by kernel_rfl) (by kernel_rfl) (by kernel_rfl) (fun _ _ _ h => h) (Or.inl ⟨by rfl, ?_⟩) (by assumption) ?_
                rotate_left
                focus (intro w hSw; (try dsimp only at hSw); go_simp; try with_reducible rfl)
                (try simp only [Act.put, List.setIfInBounds_toArray, List.set_cons_zero, List.set_cons_succ])
                refine wpAnyH_take (i := 8) (oi := _) (v := ?_) (by simp only [List.getElem?_toArray, List.getElem?_cons_succ, List.getElem?_cons_zero]; rfl) (by kernel_rfl) (by kernel_rfl) (by kernel_rfl) (fun _ _ _ h => h) (Or.inl ⟨by rfl, ?_⟩) (by assumption) ?_
                rotate_left
                focus (intro w hSw; (try dsimp only at hSw); go_simp; try with_reducible rfl)
                (try simp only [Act.put, List.setIfInBounds_toArray, List.set_cons_zero, List.set_cons_succ])
                refine wpAnyH_take (i := 9) (oi := _) (v := ?_) (by simp only [List.getElem?_toArray, List.getElem?_cons_succ, List.getElem?_cons_zero]; rfl) (by kernel_rfl) (by kernel_rfl) (by kernel_rfl) (fun _ _ _ h => h) (Or.inl ⟨by rfl, ?_⟩) (by assumption) ?_
                rotate_left
                focus (intro w hSw; (try dsimp only at hSw); go_simp; try with_reducible rfl)
                (try simp only [Act.put, List.setIfInBounds_toArray, List.set_cons_zero, List.set_cons_succ])
                refine wpAnyH_ready (rs := [11]) (by kernel_rfl) (by simp) ?_
                refine AllReadyH.cons (o := _) (by simp only [List.getElem?_toArray, List.getElem?_cons_succ, List.getElem?_cons_zero]; rfl) (fun K hK => ?_) AllReadyH.nil
                go_simp
                refine hK.out _ _ (by (try dsimp only); infer_instance) (fun hHeld => ?_)
                clear hK K
                (try simp only [Act.put, List.setIfInBounds_toArray, List.set_cons_zero, List.set_cons_succ])
                refine wpAnyH_take (i := 12) (oi := _) (v := ?_) (by simp only [List.getElem?_toArray, List.getElem?_cons_succ, List.getElem?_cons_zero]; rfl) (by kernel_rfl) (by kernel_rfl) (by kernel_rfl) (fun _ _ _ h => h) (Or.inl ⟨by rfl, ?_⟩) (by assumption) ?_
                rotate_left
                focus (intro w hSw; (try dsimp only at hSw); go_simp; try with_reducible rfl)
                (try simp only [Act.put, List.setIfInBounds_toArray, List.set_cons_zero, List.set_cons_succ])
                refine wpAnyH_done (by kernel_rfl) ?_ _
                refine NoPanic.normal ?_
                go_wp2_with fail
                go_meet
                exact ⟨v, A, by omega, JX.out.keep (by repeat (first | with_reducible exact Below.refl _ _ | (with_reducible refine Below.alloc ?_ ?_ _; rotate_left; focus ((try simp) <;> omega)) | (with_reducible refine Below.setCell ?_ ?_ _; rotate_left; focus ((try simp) <;> omega)) | (with_reducible refine below_grow ?_ ?_; rotate_left; focus ((try simp) <;> omega)) | (with_reducible refine below_putB ?_ ?_; rotate_left; focus ((try simp) <;> omega)) | with_reducible refine Below.drew ?_ | with_reducible refine below_drewN ?_ | with_reducible assumption | (with_reducible refine below_step (by assumption) ?_ ?_; rotate_left; focus ((try simp) <;> omega))))⟩
            · go_simp
              refine hK.out _ _ (by (try dsimp only); infer_instance) (fun hHeld => ?_)
              clear hK K
              (try simp only [Act.put, List.setIfInBounds_toArray, List.set_cons_zero, List.set_cons_succ])
              refine wpAnyH_ready (rs := [2]) (by kernel_rfl) (by simp) ?_
              refine AllReadyH.cons (o := _) (by simp only [List.getElem?_toArray, List.getElem?_cons_succ, List.getElem?_cons_zero]; rfl) (fun K hK => ?_) AllReadyH.nil
              go_simp
              (refine (KLAST.out _ _ _ _ _ (JX.out.L.keep (by repeat (first | with_reducible exact Below.refl _ _ | (with_reducible refine Below.alloc ?_ ?_ _; rotate_left; focus ((try simp) <;> omega)) | (with_reducible refine Below.setCell ?_ ?_ _; rotate_left; focus ((try simp) <;> omega)) | (with_reducible refine below_grow ?_ ?_; rotate_left; focus ((try simp) <;> omega)) | (with_reducible refine below_putB ?_ ?_; rotate_left; focus ((try simp) <;> omega)) | with_reducible refine Below.drew ?_ | with_reducible refine below_drewN ?_ | with_reducible assumption | (with_reducible refine below_step (by assumption) ?_ ?_; rotate_left; focus ((try simp) <;> omega))))) (by omega)).mono ?_; rintro z w6 ⟨rfl, rfl⟩; rw [HE6.out])
              try go_wp2_with fail
              refine hK.out _ _ (by (try dsimp only); infer_instance) (fun hHeld => ?_)
              clear hK K
              (try simp only [Act.put, List.setIfInBounds_toArray, List.set_cons_zero, List.set_cons_succ])
              refine wpAnyH_ready (rs := [6]) (by kernel_rfl) (by simp) ?_
              refine AllReadyH.cons (o := _) (by simp only [List.getElem?_toArray, List.getElem?_cons_succ, List.getElem?_cons_zero]; rfl) (fun K hK => ?_) AllReadyH.nil
              go_simp
              (refine (refFindR (Has.of_line (HLF.out.keep (by repeat (first | with_reducible exact Below.refl _ _ | (with_reducible refine Below.alloc ?_ ?_ _; rotate_left; focus ((try simp) <;> omega)) | (with_reducible refine Below.setCell ?_ ?_ _; rotate_left; focus ((try simp) <;> omega)) | (with_reducible refine below_grow ?_ ?_; rotate_left; focus ((try simp) <;> omega)) | (with_reducible refine below_putB ?_ ?_; rotate_left; focus ((try simp) <;> omega)) | with_reducible refine Below.drew ?_ | with_reducible refine below_drewN ?_ | with_reducible assumption | (with_reducible refine below_step (by assumption) ?_ ?_; rotate_left; focus ((try simp) <;> omega)))))) HQ.out (by omega)).mono ?_; rintro z w8 ⟨rfl, hb8⟩; have ha8 : After _ w8 := ⟨hb8⟩; have hz8 := hb8.size; try simp at hz8; rw [HFV.out])
              try go_wp2_with fail
              refine hK.out _ _ (by (try dsimp only); infer_instance) (fun hHeld => ?_)
              clear hK K
              (try simp only [Act.put, List.setIfInBounds_toArray, List.set_cons_zero, List.set_cons_succ])
              refine wpAnyH_take (i := 7) (oi := _) (v := ?_) (by simp only [List.getElem?_toArray, List.getElem?_cons_succ, List.getElem?_cons_zero]; rfl) (by kernel_rfl) (by kernel_rfl) (by kernel_rfl) (fun _ _ _ h => h) (Or.inl ⟨by rfl, ?_⟩) (by assumption) ?_
              rotate_left
              focus (intro w hSw; (try dsimp only at hSw); go_simp; try with_reducible rfl)
              (try simp only [Act.put, List.setIfInBounds_toArray, List.set_cons_zero, List.set_cons_succ])
              refine wpAnyH_take (i := 8) (oi := _) (v := ?_) (by simp only [List.getElem?_toArray, List.getElem?_cons_succ, List.getElem?_cons_zero]; rfl) (by kernel_rfl) (by kernel_rfl) (by kernel_rfl) (fun _ _ _ h => h) (Or.inl ⟨by rfl, ?_⟩) (by assumption) ?_
              rotate_left
              focus (intro w hSw; (try dsimp only at hSw); go_simp; try with_reducible rfl)
              (try simp only [Act.put, List.setIfInBounds_toArray, List.set_cons_zero, List.set_cons_succ])
              refine wpAnyH_take (i := 9) (oi := _) (v := ?_) (by simp only [List.getElem?_toArray, List.getElem?_cons_succ, List.getElem?_cons_zero]; rfl) (by kernel_rfl) (by kernel_rfl) (by kernel_rfl) (fun _ _ _ h => h) (Or.inl ⟨by rfl, ?_⟩) (by assumption) ?_
              rotate_left
              focus (intro w hSw; (try dsimp only at hSw); go_simp; try with_reducible rfl)
              (try simp only [Act.put, List.setIfInBounds_toArray, List.set_cons_zero, List.set_cons_succ])
              refine wpAnyH_ready (rs := [11]) (by kernel_rfl) (by simp) ?_
              refine AllReadyH.cons (o := _) (by simp only [List.getElem?_toArray, List.getElem?_cons_succ, List.getElem?_cons_zero]; rfl) (fun K hK => ?_) AllReadyH.nil
              go_simp
              refine hK.out _ _ (by (try dsimp only); infer_instance) (fun hHeld => ?_)
              clear hK K
              (try simp only [Act.put, List.setIfInBounds_toArray, List.set_cons_zero, List.set_cons_succ])
              refine wpAnyH_take (i := 12) (oi := _) (v := ?_) (by simp only [List.getElem?_toArray, List.getElem?_cons_succ, List.getElem?_cons_zero]; rfl) (by kernel_rfl) (by kernel_rfl) (by kernel_rfl) (fun _ _ _ h => h) (Or.inl ⟨by rfl, ?_⟩) (by assumption) ?_
              rotate_left
              focus (intro w hSw; (try dsimp only at hSw); go_simp; try with_reducible rfl)
              (try simp only [Act.put, List.setIfInBounds_toArray, List.set_cons_zero, List.set_cons_succ])
              refine wpAnyH_done (by kernel_rfl) ?_ _
              refine NoPanic.normal ?_
              go_wp2_with fail
              go_meet
              exact ⟨v, A, by omega, JX.out.keep (by repeat (first | with_reducible exact Below.refl _ _ | (with_reducible refine Below.alloc ?_ ?_ _; rotate_left; focus ((try simp) <;> omega)) | (with_reducible refine Below.setCell ?_ ?_ _; rotate_left; focus ((try simp) <;> omega)) | (with_reducible refine below_grow ?_ ?_; rotate_left; focus ((try simp) <;> omega)) | (with_reducible refine below_putB ?_ ?_; rotate_left; focus ((try simp) <;> omega)) | with_reducible refine Below.drew ?_ | with_reducible refine below_drewN ?_ | with_reducible assumption | (with_reducible refine below_step (by assumption) ?_ ?_; rotate_left; focus ((try simp) <;> omega))))⟩
          · have ke0 : (kind == 0) = false := by rw [beq_eq_false_iff_ne]; exact hk0
            have ke1 : (kind == 1) = false := by rw [beq_eq_false_iff_ne]; exact hk1
            obtain ⟨q, hq⟩ : ∃ q, (lastE A M).length = q := ⟨_, rfl⟩
            have hq2 : q ≤ 64 := by have := lastE_le A M; omega
            have kc := clearQ JX.out.J hq (Below.refl _ _)
            have KC := Lib.hid kc
            have HQ := Lib.hid hq
            clear hk0 hk1 kc hq
            go_wp2_with fail
            refine KC.out.mono ?_; rintro z w5 ⟨v5, rfl, hL5, J5, F5⟩
            have hLv := F5.line JX.out.L (fun q hq e => JX.out.h (by rw [hq, e]))
            have hLf := lastLine hLv HQ.out
            have hF5s := F5.size
            obtain ⟨a5, c5, e5, _, _⟩ := hL5.shape
            subst e5
            obtain ⟨a6, c6, e6, _, _⟩ := hLf.shape
            rw [e6] at hLf
            have HLF := Lib.hid hLf
            have HL5 := Lib.hid hL5
            have HLV := Lib.hid hLv
            have HJ5 := Lib.hid J5
            have HE6 := Lib.hid e6
            clear hLv hLf hL5 J5 F5 e6
            go_wp2_with fail
            refine (KLAST.out _ _ _ _ _ HLV.out (by omega)).mono ?_; rintro z w6 ⟨rfl, rfl⟩
            rw [HE6.out]
            go_wp2_with fail
            refine (sameE (Has.of_line HL5.out) (Has.of_line HLF.out) HQ.out (by omega)).mono ?_; rintro z w7 ⟨rfl, hb7⟩
            go_wp2_with fail
            go_meet
            refine ⟨.slice none 0 0, [], by simp, ⟨by have h := HJ5.out.keep hb7; simpa [lastE] using h, by simpa [ents] using Line.nil w7 W.heap.size 7, by simp [Value.ownBlock], fun q hq => by simp [Value.ownBlock] at hq⟩⟩
      case rest =>
        clear c0 d0 d1 d2 d3 d4 d5 d6
        rename_i s6
        clear JH HVLT hbel hbs hhb hWw hWws og
        obtain ⟨v', A', hA', J'⟩ := hcut
        have hbel := J'.J.bel
        have hbs := hbel.size
        have JH := Lib.hid J'
        obtain ⟨av', cv', hvA, _, _⟩ := J'.L.shape
        subst hvA
        obtain ⟨q, hq⟩ : ∃ q, (lastE A' M).length = q := ⟨_, rfl⟩
        have hq2 : q ≤ 64 := by have := lastE_le A' M; omega
        have ka := allQ J'.J hq (Below.refl _ _)
        have KA := Lib.hid ka
        have HQ := Lib.hid hq
        clear ka hq J'
        go_wp2_with fail
        refine KA.out.mono ?_; rintro z w5 ⟨v5, rfl, hL5, hb5⟩
        have hLv := JH.out.L.keep hb5
        have hLf := lastLine hLv HQ.out
        obtain ⟨a5, c5, e5, _, _⟩ := hL5.shape
        subst e5
        obtain ⟨a6, c6, e6, _, _⟩ := hLf.shape
        rw [e6] at hLf
        have HLF := Lib.hid hLf
        have HL5 := Lib.hid hL5
        have HLV := Lib.hid hLv
        have HE6 := Lib.hid e6
        clear hLv hLf hL5 e6
        go_wp2_with fail
        refine (KLAST.out _ _ _ _ _ HLV.out (by omega)).mono ?_; rintro z w6 ⟨rfl, rfl⟩
        rw [HE6.out]
        go_wp2_with fail
        refine (sameE (Has.of_line HL5.out) (Has.of_line HLF.out) HQ.out (by omega)).mono ?_; rintro z w7 ⟨rfl, hb7⟩
        go_wp2_with fail
        go_roundw
        case rel => exact ⟨k + 1, v', A', by omega, by omega, by omega, by go_num, (JH.out.keep hb5).keep hb7⟩
        case measure => simp [intOf]; omega
    · have hkx : (k = len) ∨ (k = 200 ∧ k < len) := by omega
      clear hlt J hvlt
      rcases hkx with rfl | ⟨rfl, hkl⟩
      · go_wp2_with fail
        refine ret_any ⟨_, by simp [results, Try.results7, go_sem, *]; rfl, ?_⟩ rfl
        exact gives_of rfl hWw
      · have i3 : (200 : Int) < (len : Int) := by omega
        go_wp2_with fail
        refine ret_any ⟨_, by simp [results, Try.results7, go_sem, *]; rfl, ?_⟩ rfl
        exact gives_of rfl hWw
end Go.Proofs.Ytjlclpdjblicjaa
