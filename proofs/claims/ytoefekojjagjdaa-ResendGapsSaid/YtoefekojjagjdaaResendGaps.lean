/-
  ResendGaps: of a row that rises by steps of at most seventeen what is missing is asked for, and with it the row is whole. No condition but that the arguments fit their types.
-/
import Derived.Test.YtoefekojjagjdaaGapsLaw
import Derived.Test.YtoefekojjagjdaaSerialNear
import Derived.Test.YtoefekojjagjdaaLine2
import Derived.Deep.RegionHeld3
namespace Go.Proofs.Ytoefekojjagjdaa
open Go.RowKit Go.Sort Go.BigFrame
set_option linter.unusedVariables false
attribute [local go_sem ↓] Go.wp_at_zero Go.wp_at_succ
theorem rowE_snoc (f : Int) (P : List Nat) (p : Nat) : rowE f (P ++ [p]) = rowE f P ++ [((f + p) % 65536, 0, 0, 0, 0, 0, 0)] := by simp [rowE]
set_option maxRecDepth 100000 in
set_option maxHeartbeats 8000000 in
theorem resendGaps_ok (v0 v1 : Value) (w : World) (h0 : Arg Try.prog w 22 v0) (h1 : Arg Try.prog w 33 v1) : Calls Try.prog 16 #[v0, v1] w (Gives (.bool true) w) := by
  obtain ⟨f, rfl, hf, hf'⟩ := arg_u16 Try.underlying22 h0
  obtain ⟨a, len, cap, he, hlen, hcell⟩ := fit_rowI rfl (arg_slice Try.underlying33 h1)
  simp only [List.cons.injEq, and_true] at he
  subst he
  have HC := Lib.hid hcell
  unfold maxLen at hlen
  clear h0 h1 hcell
  obtain ⟨i0, hi, hz0, hz1, hz2⟩ := info_parts info59
  have HI := And.intro (Lib.hid hi) (And.intro (Lib.hid hz0) (And.intro (Lib.hid hz1) (Lib.hid hz2)))
  clear hi hz0 hz1 hz2
  go_enter Try.func16, Try.ntmps16
  go_wp2_with (first | (go_at_call 34; refine (shown19 _).mono ?_; rintro e w1 ⟨rfl, hb1⟩; have ha1 : After _ w1 := ⟨hb1⟩; obtain ⟨hc1, hf1⟩ := after hb1; have hz1 := hb1.size; try simp at hz1))
  obtain ⟨W, hW⟩ : ∃ W : World, W = w1 := ⟨_, rfl⟩
  subst hW
  have hWb : RowKit.Below w.heap.size w W := (by repeat (first | with_reducible exact Below.refl _ _ | (with_reducible refine Below.alloc ?_ ?_ _; rotate_left; focus ((try simp) <;> omega)) | (with_reducible refine Below.setCell ?_ ?_ _; rotate_left; focus ((try simp) <;> omega)) | (with_reducible refine below_grow ?_ ?_; rotate_left; focus ((try simp) <;> omega)) | (with_reducible refine below_putB ?_ ?_; rotate_left; focus ((try simp) <;> omega)) | with_reducible refine Below.drew ?_ | with_reducible refine below_drewN ?_ | with_reducible assumption | (with_reducible refine below_step (by assumption) ?_ ?_; rotate_left; focus ((try simp) <;> omega))))
  have hWs := hWb.size
  clear hc1 hf1 ha1 hb1 hz1
  go_loopw [5, 6] (fun s5 s6 wr => ∃ (k : Nat) (P : List Nat), k ≤ len ∧ k ≤ 40 ∧ s6 = .int .i64 k ∧ PosOK P ∧ P.length ≤ k + 1 ∧ Line wr W.heap.size 7 s5 P.length (ents (rowE f P)) ∧ Below W.heap.size W wr) (fun _ i _ => len - (intOf i).toNat)
  case atStart =>
    refine ⟨0, [0], by omega, by omega, rfl, PosOK.one, by simp, ?_, (by repeat (first | with_reducible exact Below.refl _ _ | (with_reducible refine Below.alloc ?_ ?_ _; rotate_left; focus ((try simp) <;> omega)) | (with_reducible refine Below.setCell ?_ ?_ _; rotate_left; focus ((try simp) <;> omega)) | (with_reducible refine below_grow ?_ ?_; rotate_left; focus ((try simp) <;> omega)) | (with_reducible refine below_putB ?_ ?_; rotate_left; focus ((try simp) <;> omega)) | with_reducible refine Below.drew ?_ | with_reducible refine below_drewN ?_ | with_reducible assumption | (with_reducible refine below_step (by assumption) ?_ ?_; rotate_left; focus ((try simp) <;> omega))))⟩
    refine ⟨by simp [ents_len, rowE_len], Or.inr ⟨W.heap.size, 0, 1, rfl, Nat.le_refl _, by simp, by simp, by unfold maxLen; decide, fun j u hu => ?_, fun j hj => ?_⟩⟩
    · have e : ents (rowE f [0]) = [.int .u16 f, .int .i64 0, .int .u32 0, .int .u16 0, .int .u32 0, .int .u32 0, .int .u16 0] := by
        simp [ents, rowE, entC]; omega
      rw [e] at hu
      have hb : BlkIs (W.alloc (.cells #[.int .u16 f, .int .i64 0, .int .u32 0, .int .u16 0, .int .u32 0, .int .u32 0, .int .u16 0] 59)) W.heap.size #[.int .u16 f, .int .i64 0, .int .u32 0, .int .u16 0, .int .u32 0, .int .u32 0, .int .u16 0] 59 := inferInstance
      rw [Nat.zero_add]
      exact blk_at hb j u hu
    · have hb : BlkIs (W.alloc (.cells #[.int .u16 f, .int .i64 0, .int .u32 0, .int .u16 0, .int .u32 0, .int .u32 0, .int .u16 0] 59)) W.heap.size #[.int .u16 f, .int .i64 0, .int .u32 0, .int .u16 0, .int .u32 0, .int .u32 0, .int .u16 0] 59 := inferInstance
      have := there_blk (w := (W.alloc (.cells #[.int .u16 f, .int .i64 0, .int .u32 0, .int .u16 0, .int .u32 0, .int .u32 0, .int .u16 0] 59))) (b := W.heap.size) 0 7 (by simp) j (by omega)
      exact this
  case round =>
    obtain ⟨k, P, hk, hk4, rfl, hP, hPl, hown, hbel⟩ := hrel
    have hbs := hbel.size
    have hp := hP.pos
    by_cases hlt : k < len ∧ k < 40
    · obtain ⟨k1, k2⟩ := hlt
      obtain ⟨b, off, d, rfl, hb, hd, hd0, hd1⟩ := HC.out k k1
      have hdr : wr.cell? ⟨b, off + k, none⟩ = some (.int .i64 d) := by rw [hbel.cell (p := ⟨b, _, none⟩) (by simp; omega), hWb.cell (p := ⟨b, _, none⟩) (by simpa using hb)]; exact hd
      have ob : Old b wr := ⟨by omega⟩
      have i1 : (0 : Int) ≤ (k : Int) := by omega
      have i2 : (k : Int) < (len : Int) := by omega
      have i3 : (k : Int) < 40 := by omega
      clear hd
      by_cases g1 : d < 1
      · have HO := Lib.hid hown
        clear hown
        go_wp2_with fail
        go_roundw
        case rel => exact ⟨k + 1, P, by omega, by omega, by go_num, hP, by omega, HO.out, hbel⟩
        case measure => simp [intOf]; omega
      by_cases g2 : 17 < d
      · have HO := Lib.hid hown
        clear hown
        go_wp2_with fail
        go_roundw
        case rel => exact ⟨k + 1, P, by omega, by omega, by go_num, hP, by omega, HO.out, hbel⟩
        case measure => simp [intOf]; omega
      obtain ⟨n, hn⟩ : ∃ n, n = P.length := ⟨_, rfl⟩
      obtain ⟨j, hj⟩ : ∃ j, j = n - 1 := ⟨_, rfl⟩
      rw [← hn] at hp hPl hown
      obtain ⟨g, o5, c5, rfl, hgb, hg, hnc, hcm⟩ := hown.form hp
      have p0 := hown.cell (j := j * 7 + 0) (u := .int .u16 ((f + (P.getD j 0 : Nat)) % 65536)) (by
        rw [ents_at _ j (by rw [rowE_len]; omega) 0 (by omega), rowE_getD _ _ _ (by omega)]; rfl)
      rw [Nat.add_zero] at p0
      have hxd : ((f + (P.getD j 0 : Nat)) % 65536 + d) % 65536 = (f + ((P.getD j 0 + d.toNat : Nat) : Int)) % 65536 := by omega
      obtain ⟨x, hx⟩ : ∃ x, x = (f + (P.getD j 0 : Nat)) % 65536 := ⟨_, rfl⟩
      rw [← hx] at p0 hxd
      have x0 : 0 ≤ x := by omega
      have x1 : x ≤ 65535 := by omega
      have og : Old g wr := ⟨hg⟩
      have i7 : IntKind.i64.wrap ((n : Int) - 1) = (j : Int) := by
        simp only [IntKind.wrap, IntKind.bits, IntKind.signed]
        simp
        split <;> omega
      have i9 : (0 : Int) ≤ (j : Int) := by omega
      have i10 : (j : Int) < (n : Int) := by omega
      have i11 : d % 65536 = d := by omega
      have i12 : n ≤ 41 := by omega
      have HX := Lib.hid hx
      have HXD := Lib.hid hxd
      have HO := Lib.hid hown
      have HN := Lib.hid hn
      have HJ := Lib.hid hj
      unfold maxLen at hcm
      have hne : ¬ b = g := by omega
      clear hown hx hxd hn hj hk4
      go_wp2_with fail
      go_region_held3 (fun w' => w'.cell? ⟨g, o5 + j * 7, none⟩ = some (.int .u16 x) ∧ w'.cell? ⟨b, off + k, none⟩ = some (.int .i64 d)) (first | exact ⟨q1, q2⟩ | (simp [*, go_sem]; done))
        ((refine step_append_line2 _ (by rfl) _ _ 48 (by rfl) W.heap.size 59 i0 _ 7 40 Try.underlying48 HI.1.out HI.2.1.out HI.2.2.1.out HI.2.2.2.out rfl (by decide) (.slice (some ⟨g, o5, none⟩) n c5) _ n 1 (ents (rowE f P)) [.int .u16 ((x + d) % 65536), .int .i64 0, .int .u32 0, .int .u16 0, .int .u32 0, .int .u32 0, .int .u16 0] (by rfl) (by rfl) (HO.out.keep (by repeat (first | with_reducible exact Below.refl _ _ | (with_reducible refine Below.alloc ?_ ?_ _; rotate_left; focus ((try simp) <;> omega)) | (with_reducible refine Below.setCell ?_ ?_ _; rotate_left; focus ((try simp) <;> omega)) | (with_reducible refine below_grow ?_ ?_; rotate_left; focus ((try simp) <;> omega)) | (with_reducible refine below_putB ?_ ?_; rotate_left; focus ((try simp) <;> omega)) | with_reducible refine Below.drew ?_ | with_reducible refine below_drewN ?_ | with_reducible assumption | (with_reducible refine below_step (by assumption) ?_ ?_; rotate_left; focus ((try simp) <;> omega))))) (Src.one rfl (by simp [Value.oneCell']) (blk_at (cs := #[.int .u16 ((x + d) % 65536), .int .i64 0, .int .u32 0, .int .u16 0, .int .u32 0, .int .u32 0, .int .u16 0]) (t := 59) (by infer_instance))) (by unfold maxLen; omega) (by omega) (by first | omega | (simp; omega)) _ rfl ?_; intro v5 w5 hown5 hgrow5 hat5 hpre5; have q1 := hpre5.cell (j := j * 7 + 0) (u := .int .u16 x) (by rw [ents_at _ j (by rw [rowE_len, ← HN.out]; omega) 0 (by omega), rowE_getD _ _ _ (by rw [← HN.out]; omega), HX.out]; rfl); rw [Nat.add_zero] at q1; have q2 : w5.cell? ⟨b, off + k, none⟩ = some (.int .i64 d) := (by rw [World.cell?_of_block (a := ⟨b, off + k, none⟩) (hgrow5.block b (by first | omega | (simp; omega)) (by simp [Value.ownBlock]; omega))]; simp [*, go_sem])))
      all_goals
        have hB5 : RowKit.Below W.heap.size W w5 := RowKit.Below.grown (w := _) (by repeat (first | with_reducible exact Below.refl _ _ | (with_reducible refine Below.alloc ?_ ?_ _; rotate_left; focus ((try simp) <;> omega)) | (with_reducible refine Below.setCell ?_ ?_ _; rotate_left; focus ((try simp) <;> omega)) | (with_reducible refine below_grow ?_ ?_; rotate_left; focus ((try simp) <;> omega)) | (with_reducible refine below_putB ?_ ?_; rotate_left; focus ((try simp) <;> omega)) | with_reducible refine Below.drew ?_ | with_reducible refine below_drewN ?_ | with_reducible assumption | (with_reducible refine below_step (by assumption) ?_ ?_; rotate_left; focus ((try simp) <;> omega)))) hgrow5 (by simp; omega) (fun r hr => (HO.out.lt hr).1)
        have HO5 := Lib.hid hown5
        clear hown5 hgrow5 hat5 hpre5 q1 q2
        go_wp2_with fail
        go_roundw
        case rel =>
          refine ⟨k + 1, P ++ [P.getD (P.length - 1) 0 + d.toNat], by omega, by omega, by go_num, hP.snoc _ (by omega) (by omega) (by rw [← HN.out]; omega), by simp [← HN.out]; omega, ?_, hB5⟩
          rw [rowE_snoc, ents_snoc, List.length_append, ← HN.out, ← HJ.out]
          have h := HO5.out
          rw [HXD.out] at h
          exact h
        case measure => simp [intOf]; omega
    · have hk40 : (k = len) ∨ (k = 40 ∧ k < len) := by omega
      have hfp := rowE_fits f P
      have hPl2 := hP.top
      obtain ⟨L, hL⟩ : ∃ L, L = rowE f P := ⟨_, rfl⟩
      have hMl := miss_len (f := f) hP
      have hMo := ofL_miss (f := f) hP
      rw [← hL] at hown hfp hMl hMo
      have hLl : L.length = P.length := by rw [hL, rowE_len]
      have hMf := missTo_fits L L.length
      have hMx : expand (pack (miss L)) = miss L := expand_pack_all hMf
      have km := fun (w' : World) (k : RowKit.Below wr.heap.size wr w') => missingR ((Has.of_line hown).keep k) hLl hfp (by omega)
      have hpl : (pack (miss L)).length ≤ (miss L).length := packTo_len _ _
      have hM16 : (miss L).length ≤ 16 * L.length := missTo_len L L.length
      have kx := fun (w' : World) (v : Value) (h : Has w' 2 v (pack (miss L)).length (prs (pack (miss L)))) => expandR h rfl (packTo_fits hMf _) (by omega)
      have ko := fun (w' : World) (v : Value) (k : RowKit.Below wr.heap.size wr w') (h : Has w' 2 v (pack (miss L)).length (prs (pack (miss L)))) => ofR ((Has.of_line hown).keep k) hLl (by omega) h rfl (packTo_fits hMf _) (by omega)
      rw [hMx] at kx ko
      rw [hMo] at ko
      simp only [List.length_nil, Int.natCast_zero, Int.sub_zero] at ko
      obtain ⟨M, hM⟩ : ∃ M, M = miss L := ⟨_, rfl⟩
      rw [← hM] at km kx ko hMl hpl hM16
      obtain ⟨q, hq⟩ : ∃ q, q = M.length := ⟨_, rfl⟩
      rw [← hq] at kx ko hMl hpl hM16
      obtain ⟨n, hn⟩ : ∃ n, n = P.length := ⟨_, rfl⟩
      obtain ⟨j, hj⟩ : ∃ j, j = n - 1 := ⟨_, rfl⟩
      rw [← hn] at hp hPl2 hown hLl
      have hat := fun i D h1 h2 h3 h4 => miss_at (f := f) hP i D h1 h2 h3 h4
      rw [← hL, ← hM, ← hMl] at hat
      rw [← hn, ← hj] at hMl
      have KM := Lib.hid km
      have KX := Lib.hid kx
      have KO := Lib.hid ko
      have HAT := Lib.hid hat
      have HL := Lib.hid hL
      have HLl := Lib.hid hLl
      have HM := Lib.hid hM
      have HQ := Lib.hid hq
      have HN := Lib.hid hn
      have HJ := Lib.hid hj
      have HMl := Lib.hid hMl
      have HX := Lib.hid (Has.of_line hown)
      obtain ⟨g, o5, c5, rfl, hgb, hg, hnc, hcm⟩ := hown.form hp
      have hq2 : q ≤ 1000 := by omega
      have i7 : IntKind.i64.wrap ((n : Int) - 1) = (j : Int) := by
        simp only [IntKind.wrap, IntKind.bits, IntKind.signed]
        simp
        split <;> omega
      have i9 : (0 : Int) ≤ (j : Int) := by omega
      have i10 : (j : Int) < (n : Int) := by omega
      unfold maxLen at hcm
      clear km kx ko hat hL hLl hM hq hn hj hMl hown hfp hMo hMf hMx hpl hM16 hlt
      have hB0 : RowKit.Below w.heap.size w wr := hWb.trans (hbel.mono hWs)
      have hB0s := hB0.size
      obtain ⟨wo, hwo⟩ : ∃ wo : World, wo = wr := ⟨_, rfl⟩
      subst hwo
      have i40 : (k < len → (40 : Int) ≤ (k : Int)) ∧ (¬ k < len → (len : Int) ≤ (k : Int)) := by omega
      rcases hk40 with hk40 | ⟨hk40, hkl⟩
      all_goals
        first
          | (have i41 : (len : Int) ≤ (k : Int) := by omega)
          | (have i41 : (40 : Int) ≤ (k : Int) := by omega)
        clear hk40 i40
        go_wp2_with fail
        refine (KM.out _ (Below.refl _ _)).mono ?_; rintro e w2 ⟨v2, rfl, hL2, hb2⟩
        have hb2s := hb2.size
        go_wp2_with fail
        refine (KX.out _ _ (Has.of_line hL2)).mono ?_; rintro e w3 ⟨v3, rfl, hL3, hb3⟩
        have B3 : RowKit.Below wo.heap.size wo w3 := hb2.trans (hb3.mono hb2s)
        have B3s := B3.size
        go_wp2_with fail
        refine (KM.out _ B3).mono ?_; rintro e w4 ⟨v4, rfl, hL4, hb4⟩
        have B4 : RowKit.Below wo.heap.size wo w4 := B3.trans (hb4.mono B3s)
        have B4s := B4.size
        go_wp2_with fail
        refine (KO.out _ _ B4 (Has.of_line hL4)).mono ?_; rintro e w5 ⟨v5, rfl, hL5, hb5⟩
        have B5 : RowKit.Below wo.heap.size wo w5 := B4.trans (hb5.mono B4s)
        have XA := Lib.hid (Has.of_line ((hL3.keep hb4).keep hb5))
        have XL := Lib.hid (HX.out.keep B5)
        obtain ⟨a3, c3, rfl, _, _⟩ := hL3.shape
        obtain ⟨ax, cx, rfl, _, _⟩ := hL5.shape
        have B6 : RowKit.Below w.heap.size w w5 := hB0.trans (B5.mono hB0s)
        obtain ⟨wl, hwl⟩ : ∃ wl : World, wl = w5 := ⟨_, rfl⟩
        subst hwl
        clear hL2 hL3 hL4 hL5 hb2 hb3 hb4 hb5 hb2s B3 B3s B4 B4s
        go_wp2_with fail
        go_loopw [10, 11, 12] (fun s10 s11 s12 wr => ∃ at' κ : Nat, at' ≤ j ∧ s10 = .int .i64 at' ∧ s11 = .int .i64 κ ∧ s12 = .int .u16 ((f + (at' + κ : Nat)) % 65536) ∧ at' + κ ≤ P.getD at' 0 ∧ (at' = 0 ∨ P.getD (at' - 1) 0 < at' + κ) ∧ wr = wl) (fun s10 s11 _ _ => 2000 - (intOf s10).toNat - (intOf s11).toNat)
        case atStart => exact ⟨0, 0, by omega, rfl, rfl, by simp; omega, by omega, .inl rfl, rfl⟩
        case round =>
          obtain ⟨u, κ, hu, rfl, rfl, rfl, hup, hlo, rfl⟩ := hrel
          have hjn : j < P.length := by rw [← HN.out]; omega
          have huP := hP.le u (by omega)
          have hjP := hP.le j hjn
          have hx := rowE_getD f P u (by omega)
          have hy := rowE_getD f P j hjn
          rw [← HL.out] at hx hy
          obtain ⟨g', o', c', ev, hg', _, hcu⟩ := ent_cells XL.out HLl.out u (by omega)
          simp only [Value.slice.injEq, true_and, Option.some.injEq, Addr.mk.injEq, and_true] at ev
          obtain ⟨⟨rfl, rfl⟩, rfl⟩ := ev
          obtain ⟨g', o', c', ev, _, _, hcj⟩ := ent_cells XL.out HLl.out j (by omega)
          simp only [Value.slice.injEq, true_and, Option.some.injEq, Addr.mk.injEq, and_true] at ev
          obtain ⟨⟨rfl, rfl⟩, rfl⟩ := ev
          have d0 := hcu 0 (by omega)
          have d1 := hcj 0 (by omega)
          rw [hx] at d0
          rw [hy] at d1
          simp only [entC, List.getElem?_cons_zero, Nat.add_zero] at d0 d1
          clear hcu hcj hx hy
          have hmono : P.getD u 0 = P.getD j 0 ∧ u = j ∨ (u < j ∧ P.getD u 0 < P.getD (u + 1) 0 ∧ P.getD (u + 1) 0 ≤ P.getD j 0 ∧ P.getD u 0 < P.getD j 0) := by
            by_cases e : u = j
            · exact .inl ⟨by rw [e], e⟩
            · have h1 := hP.lo u (by omega)
              have h2 := hP.mono (j - (u + 1)) (u + 1) (by omega)
              rw [show u + 1 + (j - (u + 1)) = j by omega] at h2
              exact .inr ⟨by omega, by omega, by omega, by omega⟩
          have og : Old g wr := ⟨hg'⟩
          have i20 : (0 : Int) ≤ (u : Int) := by omega
          have i21 : (u : Int) < (n : Int) := by omega
          have i22 : (0 : Int) ≤ (κ : Int) := by omega
          have i23 : (κ : Int) ≤ 1000 := by omega
          have hnx : ((f + (u + κ : Nat)) % 65536 + 1) % 65536 = (f + ((u + κ + 1 : Nat) : Int)) % 65536 := by omega
          by_cases hD : u + κ = P.getD u 0
          · have e0 : (f + ((P.getD u 0 : Nat) : Int)) % 65536 = (f + (u + κ : Nat)) % 65536 := by rw [hD]
            rw [e0] at d0
            rcases hmono with ⟨hm1, hm2⟩ | ⟨hm1, hm2, hm3, hm4⟩
            · subst hm2
              rw [e0] at d1
              have hκ : κ = q := by have := HMl.out; omega
              subst hκ
              generalize (f + (u + κ : Nat)) % 65536 = s at d0 d1 ⊢
              have hjn1 : n = u + 1 := by have := HJ.out; omega
              subst hjn1
              clear e0 hnx hm1 hlo hup hD huP hjP
              go_wp2_with fail
              refine ret_any ⟨_, by simp [results, Try.results16, go_sem, *]; rfl, ?_⟩ rfl
              exact gives_of rfl B6
            · have i30 : ((f + (u + κ : Nat)) % 65536 == (f + ((P.getD j 0 : Nat) : Int)) % 65536) = false := by rw [beq_eq_false_iff_ne]; omega
              obtain ⟨s, hs⟩ : ∃ s, s = (f + ((u + κ : Nat) : Int)) % 65536 := ⟨_, rfl⟩
              rw [← hs] at d0 i30 hnx ⊢
              generalize (f + ((P.getD j 0 : Nat) : Int)) % 65536 = y at d1 i30
              have HNX := Lib.hid hnx
              have HS := Lib.hid hs
              have HD := Lib.hid hD
              have HR := Lib.hid (And.intro hm1 hm2)
              clear e0 hnx hs hm1 hm2 hm3 hm4 hlo hup hD huP hjP
              go_wp2_with fail
              go_roundw
              case rel =>
                obtain ⟨r1, r2⟩ := HR.out
                have := HD.out
                refine ⟨u + 1, κ, by omega, by go_num, rfl, ?_, by omega, .inr (by rw [Nat.add_sub_cancel]; omega), by first | trivial | rfl⟩
                rw [HNX.out]; congr 2; omega
              case measure => simp [intOf]; omega
          · have hu1 : 1 ≤ u := by
              rcases hlo with h | h
              · subst h; rw [hP.zero] at hup hD; omega
              · have := hP.zero; by_cases e : u = 0
                · subst e; rw [hP.zero] at hup hD; omega
                · omega
            have hlo' : P.getD (u - 1) 0 < u + κ := by
              rcases hlo with h | h
              · omega
              · exact h
            obtain ⟨h1, h2⟩ := HAT.out u (u + κ) hu1 (by omega) hlo' (by omega)
            rw [Nat.add_sub_cancel_left] at h1 h2
            obtain ⟨ga, oa, ca, ev, hga, dk⟩ := has_cell1 XA.out HQ.out.symm κ h2
            simp only [Value.slice.injEq, true_and] at ev
            obtain ⟨rfl, rfl⟩ := ev
            rw [h1] at dk
            have i30 : ((f + (u + κ : Nat)) % 65536 == (f + ((P.getD j 0 : Nat) : Int)) % 65536) = false := by
              have : P.getD u 0 ≤ P.getD j 0 := by omega
              rw [beq_eq_false_iff_ne]; omega
            have i31 : ((f + ((P.getD u 0 : Nat) : Int)) % 65536 == (f + (u + κ : Nat)) % 65536) = false := by rw [beq_eq_false_iff_ne]; omega
            have i32 : (κ : Int) < (q : Int) := by omega
            obtain ⟨s, hs⟩ : ∃ s, s = (f + ((u + κ : Nat) : Int)) % 65536 := ⟨_, rfl⟩
            rw [← hs] at dk i30 i31 hnx ⊢
            generalize (f + ((P.getD j 0 : Nat) : Int)) % 65536 = y at d1 i30
            generalize (f + ((P.getD u 0 : Nat) : Int)) % 65536 = x at d0 i31
            have HNX := Lib.hid hnx
            have HS := Lib.hid hs
            have HR := Lib.hid (And.intro hlo' (show u + κ < P.getD u 0 by omega))
            have oga : Old ga wr := ⟨hga⟩
            clear hnx hs hlo hlo' hup hD huP hjP hmono h1
            go_wp2_with fail
            go_roundw
            case rel =>
              obtain ⟨r1, r2⟩ := HR.out
              refine ⟨u, κ + 1, by omega, rfl, by go_num, ?_, by omega, .inr (by omega), by first | trivial | rfl⟩
              rw [HNX.out]; rfl
            case measure => simp [intOf]; omega
end Go.Proofs.Ytoefekojjagjdaa
