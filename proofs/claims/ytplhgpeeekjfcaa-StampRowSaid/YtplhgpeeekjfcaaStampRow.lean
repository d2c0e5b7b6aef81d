/-
  The law StampRow as a walk. No condition but that the arguments fit their types.
-/
import Derived.Test.YtplhgpeeekjfcaaStampRowM
import Derived.Deep.CutBlock
import Derived.Deep.DeepCutAuto
namespace Go.Proofs.Ytplhgpeeekjfcaa
open Go.RowKit Go.Sort Go.BigFrame
set_option linter.unusedVariables false
attribute [local go_sem ↓] Go.wp_at_zero Go.wp_at_succ
set_option maxRecDepth 100000 in
set_option maxHeartbeats 16000000 in
theorem stampRow_ok (v0 v1 v2 v3 : Value) (w : World) (h0 : Arg Try.prog w 3 v0) (h1 : Arg Try.prog w 3 v1) (h2 : Arg Try.prog w 3 v2) (h3 : Arg Try.prog w 89 v3) : Calls Try.prog 18 #[v0, v1, v2, v3] w (Gives (.bool true) w) := by
  obtain ⟨pe, rfl, _, _⟩ := arg_i64 Try.underlying3 h0
  obtain ⟨so, rfl, _, _⟩ := arg_i64 Try.underlying3 h1
  obtain ⟨wa, rfl, _, _⟩ := arg_i64 Try.underlying3 h2
  obtain ⟨sa, len, cap, he, hlen, hcell⟩ := fit_sacts rfl (arg_slice Try.underlying89 h3)
  simp only [List.cons.injEq, and_true] at he
  subst he
  have HCELL := Lib.hid hcell
  have kn := fun (w : World) => stampNew pe so wa w
  simp only [track] at kn
  obtain ⟨out, hout⟩ : ∃ out, out = outV pe so := ⟨_, rfl⟩
  rw [← hout] at kn
  obtain ⟨gw, hgw⟩ : ∃ gw, gw = heldV wa := ⟨_, rfl⟩
  rw [← hgw] at kn
  have KN := Lib.hid kn
  obtain ⟨i5, hi, hz0, hz1, hz2⟩ := info_parts info5
  have HV := And.intro (Lib.hid hi) (And.intro (Lib.hid hz0) (And.intro (Lib.hid hz1) (Lib.hid hz2)))
  clear hi hz0 hz1 hz2 kn hout hgw hcell h0 h1 h2 h3
  unfold maxLen at hlen
  go_enter Try.func18, Try.ntmps18
  go_wp2_with (first | (go_at_call 43; refine (shown17 _).mono ?_; rintro e w1 ⟨rfl, hb1⟩; have ha1 : After _ w1 := ⟨hb1⟩; obtain ⟨hc1, hf1⟩ := after hb1; have hz1 := hb1.size; try simp at hz1) | (go_at_call 48; refine (KN.out _).mono ?_; rintro e w2 ⟨rfl, hb2⟩; have ha2 : After _ w2 := ⟨hb2⟩; obtain ⟨hc2, hf2⟩ := after hb2; have hz2 := hb2.size; try simp at hz2))
  have e0 : BlkIs (w2.alloc (.cells #[.int .i64 gw, .int .i64 (-1), .bool false, .bool false, .bool false, .int .u16 0, .int .u16 0, .int .u16 0, .bool false, .int .u32 0, .int .u32 0, .int .u32 out, .int .u16 65535, .int .u32 0, .int .u32 0] 64)) w2.heap.size _ 64 := inferInstance
  have B2 : RowKit.Below w.heap.size w (w2.alloc (.cells #[.int .i64 gw, .int .i64 (-1), .bool false, .bool false, .bool false, .int .u16 0, .int .u16 0, .int .u16 0, .bool false, .int .u32 0, .int .u32 0, .int .u32 out, .int .u16 65535, .int .u32 0, .int .u32 0] 64)) := (by repeat (first | with_reducible exact Below.refl _ _ | (with_reducible refine Below.alloc ?_ ?_ _; rotate_left; focus ((try simp) <;> omega)) | (with_reducible refine Below.setCell ?_ ?_ _; rotate_left; focus ((try simp) <;> omega)) | (with_reducible refine below_grow ?_ ?_; rotate_left; focus ((try simp) <;> omega)) | (with_reducible refine below_putB ?_ ?_; rotate_left; focus ((try simp) <;> omega)) | with_reducible refine Below.drew ?_ | with_reducible refine below_drewN ?_ | with_reducible assumption | (with_reducible refine below_step (by assumption) ?_ ?_; rotate_left; focus ((try simp) <;> omega))))
  have hle : w.heap.size ≤ w2.heap.size := by omega
  obtain ⟨B, hB⟩ : ∃ B, B = w2.heap.size := ⟨_, rfl⟩
  rw [← hB] at e0 hle ⊢
  clear hB
  go_loopw [10, 11, 12, 13, 14, 15] (fun s10 s11 s12 s13 s14 s15 wr => ∃ (k : Nat) (ga gc : Int) (gp gm cl : Bool) (ci co : Int) (ka : Bool) (ko kl fr oc : Int) (n : Nat) (li lo : Int), k ≤ len ∧ k ≤ 150 ∧ n ≤ k ∧ s15 = .int .i64 k ∧ s10 = .int .u32 n ∧ s11 = .int .u32 oc ∧ s12 = .int .u16 fr ∧ s13 = .int .u32 li ∧ s14 = .int .u32 lo ∧ RowI gc cl ci co ka ko kl fr oc n li lo ∧ BlkIs wr B #[.int .i64 ga, .int .i64 gc, .bool gp, .bool gm, .bool cl, .int .u16 ci, .int .u16 co, .int .u16 n, .bool ka, .int .u32 ko, .int .u32 kl, .int .u32 out, .int .u16 fr, .int .u32 n, .int .u32 oc] 64 ∧ Below w.heap.size w wr) (fun _ _ _ _ _ i _ => len - (intOf i).toNat)
  case atStart => exact ⟨0, gw, -1, false, false, false, 0, 0, false, 0, 0, 65535, 0, 0, 0, 0, by omega, by omega, by omega, rfl, rfl, rfl, rfl, rfl, rfl, RowI.start, e0, B2⟩
  case round =>
    clear e0 B2
    obtain ⟨k, ga, gc, gp, gm, cl, ci, co, ka, ko, kl, fr, oc, n, li, lo, hk, hk150, hnk, rfl, rfl, rfl, rfl, rfl, rfl, hI, e9, hbel⟩ := hrel
    have hbels := hbel.size
    have hlt9 := e9.lt
    have HI := Lib.hid hI
    clear hI
    have i0 : (0 : Int) ≤ (k : Int) := by omega
    by_cases hlt : k < len
    · have i1 : (k : Int) < (len : Int) := by omega
      by_cases h150 : k < 150
      · have i2 : (k : Int) < 150 := by omega
        obtain ⟨b, off, kd, la, on, sq, tm, st, by_, rfl, hb, sq0, sq1, tm0, tm1, r0, r1, r2, r3, r4, r5, r6⟩ := HCELL.out k hlt
        have q0 : wr.cell? ⟨b, off + k * 7, none⟩ = some (.int .i64 kd) := by rw [hbel.cell (p := ⟨b, _, none⟩) hb]; exact r0
        have q1 : wr.cell? ⟨b, off + k * 7 + 1, none⟩ = some (.int .i64 la) := by rw [hbel.cell (p := ⟨b, _, none⟩) hb]; exact r1
        have q2 : wr.cell? ⟨b, off + k * 7 + 2, none⟩ = some (.bool on) := by rw [hbel.cell (p := ⟨b, _, none⟩) hb]; exact r2
        have q3 : wr.cell? ⟨b, off + k * 7 + 3, none⟩ = some (.int .u16 sq) := by rw [hbel.cell (p := ⟨b, _, none⟩) hb]; exact r3
        have q4 : wr.cell? ⟨b, off + k * 7 + 4, none⟩ = some (.int .u32 tm) := by rw [hbel.cell (p := ⟨b, _, none⟩) hb]; exact r4
        have q5 : wr.cell? ⟨b, off + k * 7 + 5, none⟩ = some (.bool st) := by rw [hbel.cell (p := ⟨b, _, none⟩) hb]; exact r5
        have q6 : wr.cell? ⟨b, off + k * 7 + 6, none⟩ = some (.int .i64 by_) := by rw [hbel.cell (p := ⟨b, _, none⟩) hb]; exact r6
        have hbo : Old b wr := ⟨Nat.lt_of_lt_of_le hb hbel.size⟩
        clear r0 r1 r2 r3 r4 r5 r6
        by_cases k0 : kd = 0
        · subst k0
          by_cases hneg : la < 0
          · go_wp2_with fail
            go_roundw
            case rel => exact ⟨k + 1, ga, gc, gp, gm, cl, ci, co, ka, ko, kl, fr, oc, n, li, lo, by omega, by omega, by omega, by go_num, rfl, rfl, rfl, rfl, rfl, HI.out, by infer_instance, (by repeat (first | with_reducible exact Below.refl _ _ | (with_reducible refine Below.alloc ?_ ?_ _; rotate_left; focus ((try simp) <;> omega)) | (with_reducible refine Below.setCell ?_ ?_ _; rotate_left; focus ((try simp) <;> omega)) | (with_reducible refine below_grow ?_ ?_; rotate_left; focus ((try simp) <;> omega)) | (with_reducible refine below_putB ?_ ?_; rotate_left; focus ((try simp) <;> omega)) | with_reducible refine Below.drew ?_ | with_reducible refine below_drewN ?_ | with_reducible assumption | (with_reducible refine below_step (by assumption) ?_ ?_; rotate_left; focus ((try simp) <;> omega))))⟩
            case measure => simp [intOf]; omega
          · obtain ⟨m0, hm0⟩ : ∃ m0 : Int, (if by_ < 0 then (0 : Int) else by_) = m0 := ⟨_, rfl⟩
            have hm00 : 0 ≤ m0 := by rw [← hm0]; split <;> omega
            obtain ⟨pL, hpL, hp300⟩ : ∃ pL : Nat, (if 300 < m0 then (300 : Int) else m0) = (pL : Int) ∧ pL ≤ 300 := by
              refine ⟨(if 300 < m0 then (300 : Int) else m0).toNat, ?_, ?_⟩
              all_goals split
              all_goals omega
            have HPM := Lib.hid hm0
            have HPL := Lib.hid hpL
            clear hpL hm0 hm00
            obtain ⟨u0, u1, u2, u3, u4, u5, u6, u7, u8, u9, u10, u11, u12, u13, u14, p0, p1, p2, p3, v, hR, hm⟩ := media_row (ga := ga) (gp := gp) (gm := gm) (out := out) HI.out (by omega) false 0 sq tm 0 none 0 0 false 0 none 0 0 pL 0 la on st 0 sq0 sq1 tm0 tm1 hp300 (by omega)
            simp only [track, packetV, descV, patchV] at hm
            have HM := Lib.hid hm
            have HR := Lib.hid hR
            clear hm hR
            go_upto_region 20 with fail
            rw [HPM.out, HPL.out]
            obtain ⟨A, hA⟩ : ∃ A, A = wr.heap.size := ⟨_, rfl⟩
            obtain ⟨W, hW⟩ : ∃ W, W = wr.alloc (.cells #[.int .i64 0, .int .i64 la, .bool on, .int .u16 sq, .int .u32 tm, .bool st, .int .i64 by_] 91) := ⟨_, rfl⟩
            have f9 : BlkIs W B #[.int .i64 ga, .int .i64 gc, .bool gp, .bool gm, .bool cl, .int .u16 ci, .int .u16 co, .int .u16 n, .bool ka, .int .u32 ko, .int .u32 kl, .int .u32 out, .int .u16 fr, .int .u32 n, .int .u32 oc] 64 := by rw [hW]; infer_instance
            have f16 : BlkIs W A #[.int .i64 0, .int .i64 la, .bool on, .int .u16 sq, .int .u32 tm, .bool st, .int .i64 by_] 91 := by rw [hW, hA]; infer_instance
            have hBW : RowKit.Below w.heap.size w W := by rw [hW]; exact (by repeat (first | with_reducible exact Below.refl _ _ | (with_reducible refine Below.alloc ?_ ?_ _; rotate_left; focus ((try simp) <;> omega)) | (with_reducible refine Below.setCell ?_ ?_ _; rotate_left; focus ((try simp) <;> omega)) | (with_reducible refine below_grow ?_ ?_; rotate_left; focus ((try simp) <;> omega)) | (with_reducible refine below_putB ?_ ?_; rotate_left; focus ((try simp) <;> omega)) | with_reducible refine Below.drew ?_ | with_reducible refine below_drewN ?_ | with_reducible assumption | (with_reducible refine below_step (by assumption) ?_ ?_; rotate_left; focus ((try simp) <;> omega))))
            have hWs := hBW.size
            have hAB : B < A := by omega
            rw [← hW, ← hA]
            clear hW hA e9 q0 q1 q2 q3 q4 q5 q6 hbo HPL HPM
            go_cut [18, 19, 20] (fun s18 s19 s20 wx => ∃ b18 b19, s18 = .pointer (some ⟨b18, 0, none⟩) ∧ s19 = .pointer (some ⟨b19, 0, none⟩) ∧ s20 = .int .i64 v ∧ BlkIs wx b18 #[.int .i64 u0, .int .i64 u1, .bool u2, .bool u3, .bool u4, .int .u16 u5, .int .u16 u6, .int .u16 u7, .bool u8, .int .u32 u9, .int .u32 u10, .int .u32 u11, .int .u16 u12, .int .u32 u13, .int .u32 u14] 64 ∧ BlkIs wx b19 #[.int .u16 p0, .int .u32 p1, .int .u32 p2, .int .u16 p3] 71 ∧ BlkIs wx B #[.int .i64 ga, .int .i64 gc, .bool gp, .bool gm, .bool cl, .int .u16 ci, .int .u16 co, .int .u16 n, .bool ka, .int .u32 ko, .int .u32 kl, .int .u32 out, .int .u16 fr, .int .u32 n, .int .u32 oc] 64 ∧ BlkIs wx A #[.int .i64 0, .int .i64 la, .bool on, .int .u16 sq, .int .u32 tm, .bool st, .int .i64 by_] 91 ∧ Below w.heap.size w wx)
            case first =>
              as_aux_lemma =>
                have ho : ops20 = ops20 := rfl
                conv at ho => rhs; unfold ops20; simp only [Try.f18, regionOps, Option.bind, Option.getD, reduceIte, Nat.reduceEqDiff]
                rw [← ho]
                refine row_region HM (Lib.hid ?_) hp300 i5 HV (by omega) (by omega) W f9 f16 hBW
                intro m b18 b19 x e18 e19 e9 e16 hb20
                go_wp2_with fail
                go_meet
                exact ⟨b18, b19, rfl, rfl, rfl, e18, e19, e9, e16, hb20⟩
            case rest =>
              obtain ⟨b18, b19, rfl, rfl, rfl, e18, e19, e9, e16, hb20⟩ := hcut
              have hR := HR.out
              have hb20s := hb20.size
              clear HR HM f9 f16 hBW hWs hbel hbels hlt9
              cases hR with
              | stays v h1 h2 =>
                as_aux_lemma =>
                  have g1 : (v != 1) = true := by simpa using h1
                  have g2 : (v != 2) = true := by simpa using h2
                  have g3 : (v == 2) = false := by simpa using h2
                  go_wp2_with (first | (refine wpList_load_whole (by rfl) 64 _ (by rfl) _ (by rfl) (by infer_instance) (by rfl) ?_) | (refine wpList_store_whole (by rfl) 64 _ _ (by rfl) _ _ (by rfl) (by rfl) (by infer_instance) (by rfl) (by rfl) (by rfl) ?_))
                  go_roundw
                  case rel => exact ⟨k + 1, ga, gc, gp, gm, cl, ci, co, ka, ko, kl, fr, oc, n, li, lo, by omega, by omega, by omega, by go_num, rfl, rfl, rfl, rfl, rfl, HI.out, by infer_instance, (by repeat (first | with_reducible exact Below.refl _ _ | (with_reducible refine Below.alloc ?_ ?_ _; rotate_left; focus ((try simp) <;> omega)) | (with_reducible refine Below.setCell ?_ ?_ _; rotate_left; focus ((try simp) <;> omega)) | (with_reducible refine below_grow ?_ ?_; rotate_left; focus ((try simp) <;> omega)) | (with_reducible refine below_putB ?_ ?_; rotate_left; focus ((try simp) <;> omega)) | with_reducible refine Below.drew ?_ | with_reducible refine below_drewN ?_ | with_reducible assumption | (with_reducible refine below_step (by assumption) ?_ ?_; rotate_left; focus ((try simp) <;> omega))))⟩
                  case measure => simp [intOf]; omega
              | goes hq ha ht hI =>
                have HN := Lib.hid hI
                have c1 : (n : Int) % 65536 = (n : Int) := by have := HI.out.top; omega
                have c2 : ((n : Int) + 1) % 4294967296 = ((n : Int) + 1) := by have := HI.out.top; omega
                clear hI
                cases gp <;> cases gm <;> simp at hq
                cases st
                · as_aux_lemma =>
                    have f1 : frameV false fr = fr := rfl
                    rw [f1] at e18 e19 HN
                    go_wp2_with (first | (refine wpList_load_whole (by rfl) 64 _ (by rfl) _ (by rfl) (by infer_instance) (by rfl) ?_) | (refine wpList_store_whole (by rfl) 64 _ _ (by rfl) _ _ (by rfl) (by rfl) (by infer_instance) (by rfl) (by rfl) (by rfl) ?_) | (go_at_call 32; refine (ahead16 _ _ _).mono ?_; rintro e w' ⟨rfl, rfl⟩) | (go_at_call 39; refine (quietG _ _ _ _ _).mono ?_; rintro e w1 ⟨rfl, hb1⟩; have ha1 : After _ w1 := ⟨hb1⟩; obtain ⟨hc1, hf1⟩ := after hb1; have hz1 := hb1.size; try simp at hz1))
                    refine wp_region_quiet_below (by kernel_rfl) (by kernel_rfl) ?_
                    repeat (first | go_big_quiet_step (((fail))) | quiet_step (((fail))))
                    refine wpQuiet_nil ?_
                    intro _ hw'
                    obtain ⟨⟨dq, osq⟩, hw''⟩ := hw'
                    subst hw''
                    go_wp2_with (first | (refine wpList_load_whole (by rfl) 64 _ (by rfl) _ (by rfl) (by infer_instance) (by rfl) ?_) | (refine wpList_store_whole (by rfl) 64 _ _ (by rfl) _ _ (by rfl) (by rfl) (by infer_instance) (by rfl) (by rfl) (by rfl) ?_))
                    go_roundw
                    case rel => exact ⟨k + 1, ga, gc, _, _, true, sq, (n - sq) % 65536, true, ko, (tm + ko) % 4294967296, fr, (oc + pL) % 4294967296, n + 1, tm, (tm + ko) % 4294967296, by omega, by omega, by omega, by go_num, by first | rfl | simp, rfl, rfl, rfl, rfl, HN.out, by infer_instance, (by repeat (first | with_reducible exact Below.refl _ _ | (with_reducible refine Below.alloc ?_ ?_ _; rotate_left; focus ((try simp) <;> omega)) | (with_reducible refine Below.setCell ?_ ?_ _; rotate_left; focus ((try simp) <;> omega)) | (with_reducible refine below_grow ?_ ?_; rotate_left; focus ((try simp) <;> omega)) | (with_reducible refine below_putB ?_ ?_; rotate_left; focus ((try simp) <;> omega)) | with_reducible refine Below.drew ?_ | with_reducible refine below_drewN ?_ | with_reducible assumption | (with_reducible refine below_step (by assumption) ?_ ?_; rotate_left; focus ((try simp) <;> omega))))⟩
                    case measure => simp [intOf]; omega
                · as_aux_lemma =>
                    have f1 : frameV true fr = (fr + 1) % 65536 := rfl
                    rw [f1] at e18 e19 HN
                    go_wp2_with (first | (refine wpList_load_whole (by rfl) 64 _ (by rfl) _ (by rfl) (by infer_instance) (by rfl) ?_) | (refine wpList_store_whole (by rfl) 64 _ _ (by rfl) _ _ (by rfl) (by rfl) (by infer_instance) (by rfl) (by rfl) (by rfl) ?_) | (go_at_call 32; refine (ahead16 _ _ _).mono ?_; rintro e w' ⟨rfl, rfl⟩) | (go_at_call 39; refine (quietG _ _ _ _ _).mono ?_; rintro e w1 ⟨rfl, hb1⟩; have ha1 : After _ w1 := ⟨hb1⟩; obtain ⟨hc1, hf1⟩ := after hb1; have hz1 := hb1.size; try simp at hz1))
                    refine wp_region_quiet_below (by kernel_rfl) (by kernel_rfl) ?_
                    repeat (first | go_big_quiet_step (((fail))) | quiet_step (((fail))))
                    refine wpQuiet_nil ?_
                    intro _ hw'
                    obtain ⟨⟨dq, osq⟩, hw''⟩ := hw'
                    subst hw''
                    go_wp2_with (first | (refine wpList_load_whole (by rfl) 64 _ (by rfl) _ (by rfl) (by infer_instance) (by rfl) ?_) | (refine wpList_store_whole (by rfl) 64 _ _ (by rfl) _ _ (by rfl) (by rfl) (by infer_instance) (by rfl) (by rfl) (by rfl) ?_))
                    go_roundw
                    case rel => exact ⟨k + 1, ga, gc, _, _, true, sq, (n - sq) % 65536, true, ko, (tm + ko) % 4294967296, (fr + 1) % 65536, (oc + pL) % 4294967296, n + 1, tm, (tm + ko) % 4294967296, by omega, by omega, by omega, by go_num, by first | rfl | simp, rfl, rfl, rfl, rfl, HN.out, by infer_instance, (by repeat (first | with_reducible exact Below.refl _ _ | (with_reducible refine Below.alloc ?_ ?_ _; rotate_left; focus ((try simp) <;> omega)) | (with_reducible refine Below.setCell ?_ ?_ _; rotate_left; focus ((try simp) <;> omega)) | (with_reducible refine below_grow ?_ ?_; rotate_left; focus ((try simp) <;> omega)) | (with_reducible refine below_putB ?_ ?_; rotate_left; focus ((try simp) <;> omega)) | with_reducible refine Below.drew ?_ | with_reducible refine below_drewN ?_ | with_reducible assumption | (with_reducible refine below_step (by assumption) ?_ ?_; rotate_left; focus ((try simp) <;> omega))))⟩
                    case measure => simp [intOf]; omega
              | turns X hq hk hs ht hI =>
                subst hk hs
                have c1 : (n : Int) % 65536 = (n : Int) := by have := HI.out.top; omega
                have c2 : ((n : Int) + 1) % 4294967296 = ((n : Int) + 1) := by have := HI.out.top; omega
                have f1 : frameV true fr = (fr + 1) % 65536 := rfl
                obtain ⟨T, hT⟩ : ∃ T, T = (tm + u9) % 4294967296 := ⟨_, rfl⟩
                rw [f1, ← hT] at e18 e19 hI
                rw [← hT] at ht
                clear f1 hT
                cases gp <;> cases gm <;> simp at hq
                by_cases n0 : n = 0
                · as_aux_lemma =>
                    subst n0
                    rw [if_pos rfl] at ht
                    subst ht
                    have HN := Lib.hid hI
                    clear c1 c2 hI
                    go_wp2_with (first | (refine wpList_load_whole (by rfl) 64 _ (by rfl) _ (by rfl) (by infer_instance) (by rfl) ?_) | (refine wpList_store_whole (by rfl) 64 _ _ (by rfl) _ _ (by rfl) (by rfl) (by infer_instance) (by rfl) (by rfl) (by rfl) ?_) | (go_at_call 39; refine (quietG _ _ _ _ _).mono ?_; rintro e w1 ⟨rfl, hb1⟩; have ha1 : After _ w1 := ⟨hb1⟩; obtain ⟨hc1, hf1⟩ := after hb1; have hz1 := hb1.size; try simp at hz1))
                    refine wp_region_quiet_below (by kernel_rfl) (by kernel_rfl) ?_
                    repeat (first | go_big_quiet_step (((fail))) | quiet_step (((fail))))
                    refine wpQuiet_nil ?_
                    intro _ hw'
                    obtain ⟨⟨dq, osq⟩, hw''⟩ := hw'
                    subst hw''
                    go_wp2_with (first | (refine wpList_load_whole (by rfl) 64 _ (by rfl) _ (by rfl) (by infer_instance) (by rfl) ?_) | (refine wpList_store_whole (by rfl) 64 _ _ (by rfl) _ _ (by rfl) (by rfl) (by infer_instance) (by rfl) (by rfl) (by rfl) ?_))
                    go_roundw
                    case rel => exact ⟨k + 1, ga, ga, _, _, true, sq, (((0 : Nat) : Int) - sq) % 65536, true, u9, 0, (fr + 1) % 65536, (oc + pL) % 4294967296, 0 + 1, tm, 0, by omega, by omega, by omega, by go_num, by first | rfl | simp, rfl, rfl, rfl, rfl, HN.out, (by have e1 : (((0 : Nat) : Int) - sq) = -sq := (by simp); rw [e1]; infer_instance), (by repeat (first | with_reducible exact Below.refl _ _ | (with_reducible refine Below.alloc ?_ ?_ _; rotate_left; focus ((try simp) <;> omega)) | (with_reducible refine Below.setCell ?_ ?_ _; rotate_left; focus ((try simp) <;> omega)) | (with_reducible refine below_grow ?_ ?_; rotate_left; focus ((try simp) <;> omega)) | (with_reducible refine below_putB ?_ ?_; rotate_left; focus ((try simp) <;> omega)) | with_reducible refine Below.drew ?_ | with_reducible refine below_drewN ?_ | with_reducible assumption | (with_reducible refine below_step (by assumption) ?_ ?_; rotate_left; focus ((try simp) <;> omega))))⟩
                    case measure => simp [intOf]; omega

                · as_aux_lemma =>
                    rw [if_neg n0] at ht
                    subst ht
                    have HN := Lib.hid hI
                    clear hI
                    go_wp2_with (first | (refine wpList_load_whole (by rfl) 64 _ (by rfl) _ (by rfl) (by infer_instance) (by rfl) ?_) | (refine wpList_store_whole (by rfl) 64 _ _ (by rfl) _ _ (by rfl) (by rfl) (by infer_instance) (by rfl) (by rfl) (by rfl) ?_) | (go_at_call 39; refine (quietG _ _ _ _ _).mono ?_; rintro e w1 ⟨rfl, hb1⟩; have ha1 : After _ w1 := ⟨hb1⟩; obtain ⟨hc1, hf1⟩ := after hb1; have hz1 := hb1.size; try simp at hz1))
                    refine wp_region_quiet_below (by kernel_rfl) (by kernel_rfl) ?_
                    repeat (first | go_big_quiet_step (((fail))) | quiet_step (((fail))))
                    refine wpQuiet_nil ?_
                    intro _ hw'
                    obtain ⟨⟨dq, osq⟩, hw''⟩ := hw'
                    subst hw''
                    go_wp2_with (first | (refine wpList_load_whole (by rfl) 64 _ (by rfl) _ (by rfl) (by infer_instance) (by rfl) ?_) | (refine wpList_store_whole (by rfl) 64 _ _ (by rfl) _ _ (by rfl) (by rfl) (by infer_instance) (by rfl) (by rfl) (by rfl) ?_))
                    go_roundw
                    case rel => exact ⟨k + 1, ga, ga, _, _, true, sq, (n - sq) % 65536, true, u9, ((lo + 3000) % 4294967296), (fr + 1) % 65536, (oc + pL) % 4294967296, n + 1, tm, ((lo + 3000) % 4294967296), by omega, by omega, by omega, by go_num, by first | rfl | simp, rfl, rfl, rfl, rfl, HN.out, by infer_instance, (by repeat (first | with_reducible exact Below.refl _ _ | (with_reducible refine Below.alloc ?_ ?_ _; rotate_left; focus ((try simp) <;> omega)) | (with_reducible refine Below.setCell ?_ ?_ _; rotate_left; focus ((try simp) <;> omega)) | (with_reducible refine below_grow ?_ ?_; rotate_left; focus ((try simp) <;> omega)) | (with_reducible refine below_putB ?_ ?_; rotate_left; focus ((try simp) <;> omega)) | with_reducible refine Below.drew ?_ | with_reducible refine below_drewN ?_ | with_reducible assumption | (with_reducible refine below_step (by assumption) ?_ ?_; rotate_left; focus ((try simp) <;> omega))))⟩
                    case measure => simp [intOf]; omega

        · have k0' : (kd == 0) = false := by simpa using k0
          by_cases k1 : kd = 1
          · as_aux_lemma =>
              subst k1
              go_wp2_with (go_at_call 36; refine (pauseG _ _ _ _ _ _).mono ?_; rintro e w1 ⟨rfl, hb1⟩; have ha1 : After _ w1 := ⟨hb1⟩; obtain ⟨hc1, hf1⟩ := after hb1; have hz1 := hb1.size; try simp at hz1)
              go_roundw
              case rel => exact ⟨k + 1, ga, shutC on gc, on, gm, cl, ci, co, ka, ko, kl, fr, oc, n, li, lo, by omega, by omega, by omega, by go_num, rfl, rfl, rfl, rfl, rfl, HI.out.shut, by infer_instance, (by repeat (first | with_reducible exact Below.refl _ _ | (with_reducible refine Below.alloc ?_ ?_ _; rotate_left; focus ((try simp) <;> omega)) | (with_reducible refine Below.setCell ?_ ?_ _; rotate_left; focus ((try simp) <;> omega)) | (with_reducible refine below_grow ?_ ?_; rotate_left; focus ((try simp) <;> omega)) | (with_reducible refine below_putB ?_ ?_; rotate_left; focus ((try simp) <;> omega)) | with_reducible refine Below.drew ?_ | with_reducible refine below_drewN ?_ | with_reducible assumption | (with_reducible refine below_step (by assumption) ?_ ?_; rotate_left; focus ((try simp) <;> omega))))⟩
              case measure => simp [intOf]; omega
          · have k1' : (kd == 1) = false := by simpa using k1
            by_cases k2 : kd = 2
            · as_aux_lemma =>
                subst k2
                go_wp2_with (go_at_call 37; refine (muteG _ _ _ _ _ _).mono ?_; rintro e w1 ⟨rfl, hb1⟩; have ha1 : After _ w1 := ⟨hb1⟩; obtain ⟨hc1, hf1⟩ := after hb1; have hz1 := hb1.size; try simp at hz1)
                go_roundw
                case rel => exact ⟨k + 1, ga, shutC on gc, gp, on, cl, ci, co, ka, ko, kl, fr, oc, n, li, lo, by omega, by omega, by omega, by go_num, rfl, rfl, rfl, rfl, rfl, HI.out.shut, by infer_instance, (by repeat (first | with_reducible exact Below.refl _ _ | (with_reducible refine Below.alloc ?_ ?_ _; rotate_left; focus ((try simp) <;> omega)) | (with_reducible refine Below.setCell ?_ ?_ _; rotate_left; focus ((try simp) <;> omega)) | (with_reducible refine below_grow ?_ ?_; rotate_left; focus ((try simp) <;> omega)) | (with_reducible refine below_putB ?_ ?_; rotate_left; focus ((try simp) <;> omega)) | with_reducible refine Below.drew ?_ | with_reducible refine below_drewN ?_ | with_reducible assumption | (with_reducible refine below_step (by assumption) ?_ ?_; rotate_left; focus ((try simp) <;> omega))))⟩
                case measure => simp [intOf]; omega
            · have k2' : (kd == 2) = false := by simpa using k2
              go_wp2_with (go_at_call 38; refine (wantG _ _ _ _ _ _).mono ?_; rintro e w1 ⟨rfl, hb1⟩; have ha1 : After _ w1 := ⟨hb1⟩; obtain ⟨hc1, hf1⟩ := after hb1; have hz1 := hb1.size; try simp at hz1)
              go_roundw
              case rel => exact ⟨k + 1, heldV la, gc, gp, gm, cl, ci, co, ka, ko, kl, fr, oc, n, li, lo, by omega, by omega, by omega, by go_num, rfl, rfl, rfl, rfl, rfl, HI.out, by infer_instance, (by repeat (first | with_reducible exact Below.refl _ _ | (with_reducible refine Below.alloc ?_ ?_ _; rotate_left; focus ((try simp) <;> omega)) | (with_reducible refine Below.setCell ?_ ?_ _; rotate_left; focus ((try simp) <;> omega)) | (with_reducible refine below_grow ?_ ?_; rotate_left; focus ((try simp) <;> omega)) | (with_reducible refine below_putB ?_ ?_; rotate_left; focus ((try simp) <;> omega)) | with_reducible refine Below.drew ?_ | with_reducible refine below_drewN ?_ | with_reducible assumption | (with_reducible refine below_step (by assumption) ?_ ?_; rotate_left; focus ((try simp) <;> omega))))⟩
              case measure => simp [intOf]; omega
      · have i2 : (150 : Int) ≤ (k : Int) := by omega
        go_wp2_with fail
        refine ret_any ⟨_, by simp [results, Try.results18, go_sem, *]; rfl, ?_⟩ rfl
        exact gives_of rfl hbel
    · have i1 : (len : Int) ≤ (k : Int) := by omega
      go_wp2_with fail
      refine ret_any ⟨_, by simp [results, Try.results18, go_sem, *]; rfl, ?_⟩ rfl
      exact gives_of rfl hbel
end Go.Proofs.Ytplhgpeeekjfcaa
