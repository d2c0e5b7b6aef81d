/-
  The law ClockShift as a walk: times that all come in moved by as much go out alike. No condition but that the arguments fit their types.
-/
import Derived.Test.YtplhgpeeekjfcaaClock
namespace Go.Proofs.Ytplhgpeeekjfcaa
open Go.RowKit Go.Sort Go.BigFrame
set_option linter.unusedVariables false
attribute [local go_sem ↓] Go.wp_at_zero Go.wp_at_succ
def startOff (y : Bool) (l i : Int) : Int := ((if y then l + 3000 else 0) - i) % 4294967296
theorem startOff_bd (y : Bool) (l i : Int) : 0 ≤ startOff y l i ∧ startOff y l i ≤ 4294967295 := by unfold startOff; omega
theorem startShift (y : Bool) (l f k : Int) : startOff y l ((f + k) % 4294967296) = (startOff y l f - k) % 4294967296 := by
  unfold startOff; cases y <;> simp <;> omega
theorem clockStart' (y : Bool) (o l i : Int) (w : World) :
    Calls Try.prog 22 #[.agg #[.bool y, .int .u32 o, .int .u32 l], .int .u32 i] w (Gives (.agg #[.bool y, .int .u32 (startOff y l i), .int .u32 l]) w) := clockStart y o l i w
set_option maxHeartbeats 6400000 in
theorem clockShift_ok (v0 v1 v2 v3 : Value) (w : World) (h0 : Arg Try.prog w 24 v0) (h1 : Arg Try.prog w 22 v1) (h2 : Arg Try.prog w 22 v2) (h3 : Arg Try.prog w 31 v3) : Calls Try.prog 6 #[v0, v1, v2, v3] w (Gives (.bool true) w) := by
  obtain ⟨y, o, l, rfl, ho, ho', hl, hl'⟩ := arg_clock h0
  obtain ⟨f, rfl, hf, hf'⟩ := arg_u32 Try.underlying22 h1
  obtain ⟨q, rfl, hq, hq'⟩ := arg_u32 Try.underlying22 h2
  obtain ⟨a, len, cap, he, hlen, hcell⟩ := fit_row32 rfl (arg_slice Try.underlying31 h3)
  simp only [List.cons.injEq, and_true] at he
  subst he
  clear h0 h1 h2 h3
  unfold maxLen at hlen
  have hs := Lib.hid (startShift y l f q)
  go_enter Try.func6, Try.ntmps6
  go_upto_region 3 with (first | (go_at_call 19; refine (shown15 _).mono ?_; rintro e w1 ⟨rfl, hb1⟩; have ha1 : After _ w1 := ⟨hb1⟩; obtain ⟨hc1, hf1⟩ := after hb1; have hz1 := hb1.size; try simp at hz1))
  have hwr : IntKind.u32.wrap (f + q) = (f + q) % 4294967296 := by rw [IntKind.wrap_u32]
  go_cut [9, 10] (fun s9 s10 wx => ∃ g h o1 o2, s9 = .pointer (some ⟨g, 0, none⟩) ∧ s10 = .pointer (some ⟨h, 0, none⟩) ∧ (wx.cell? ⟨g, 0, none⟩ = some (.bool y) ∧ wx.cell? ⟨g, 1, none⟩ = some (.int .u32 o1) ∧ wx.cell? ⟨g, 2, none⟩ = some (.int .u32 l)) ∧ (wx.cell? ⟨h, 0, none⟩ = some (.bool y) ∧ wx.cell? ⟨h, 1, none⟩ = some (.int .u32 o2) ∧ wx.cell? ⟨h, 2, none⟩ = some (.int .u32 l)) ∧ 0 ≤ o1 ∧ o1 ≤ 4294967295 ∧ o2 = (o1 - q) % 4294967296 ∧ (wx.frozen? ⟨g, 0, none⟩ = false ∧ wx.frozen? ⟨g, 1, none⟩ = false ∧ wx.frozen? ⟨g, 2, none⟩ = false) ∧ (wx.frozen? ⟨h, 0, none⟩ = false ∧ wx.frozen? ⟨h, 1, none⟩ = false ∧ wx.frozen? ⟨h, 2, none⟩ = false) ∧ g ≠ h ∧ w.heap.size ≤ g ∧ w.heap.size ≤ h ∧ g < wx.heap.size ∧ h < wx.heap.size ∧ Below w.heap.size w wx)
  case first =>
    go_region_held3 (fun w' => w'.cell? ⟨w.heap.size, 0, none⟩ = some (.bool y) ∧ w'.cell? ⟨w.heap.size, 1, none⟩ = some (.int .u32 o) ∧ w'.cell? ⟨w.heap.size, 2, none⟩ = some (.int .u32 l)) (first | (simp [*, go_sem]; done) | simp [*, go_sem, World.cell?_setCell_far])
      (first | (go_at_call 22; refine (clockStart' _ _ _ _ _).mono ?_; rintro e w1 ⟨rfl, hb1⟩; have ha1 : After _ w1 := ⟨hb1⟩; obtain ⟨hc1, hf1⟩ := after hb1; have hz1 := hb1.size; try simp at hz1))
    all_goals (go_wp2_with fail; go_meet)
    all_goals refine ⟨_, _, startOff y l f, startOff y l ((f + q) % 4294967296), rfl, rfl, ?_, ?_, (startOff_bd _ _ _).1, (startOff_bd _ _ _).2, hs.out, ?_, ?_, ?_, ?_, ?_, ?_, ?_, ?_⟩
    all_goals first | (show RowKit.Below _ _ _; (repeat (first | with_reducible exact Below.refl _ _ | (with_reducible refine Below.alloc ?_ ?_ _; rotate_left; focus ((try simp) <;> omega)) | (with_reducible refine Below.setCell ?_ ?_ _; rotate_left; focus ((try simp) <;> omega)) | (with_reducible refine below_grow ?_ ?_; rotate_left; focus ((try simp) <;> omega)) | with_reducible refine Below.drew ?_ | with_reducible refine below_drewN ?_ | with_reducible assumption | (with_reducible refine below_step (by assumption) ?_ ?_; rotate_left; focus ((try simp) <;> omega)))); done) | (simp [*, go_sem]; done) | omega | (simp; omega) | (simp [*, go_sem, World.cell?_setCell_far]; done)
  case rest =>
    obtain ⟨g, h, o1, o2, rfl, rfl, ⟨g0, g1, g2⟩, ⟨h0, h1, h2⟩, hb1, hb2, ho2, ⟨f0, f1, f2⟩, ⟨e0, e1, e2⟩, hgh, hwg, hwh, hgz, hhz, hbel⟩ := hcut
    clear hs hc1 hf1 hwr
    go_wp2_with fail
    go_loopw [11] (fun i wr => ∃ (k : Nat) (y z : Bool) (o1 o2 l : Int), k ≤ len ∧ i = .int .i64 k ∧ (wr.cell? ⟨g, 0, none⟩ = some (.bool y) ∧ wr.cell? ⟨g, 1, none⟩ = some (.int .u32 o1) ∧ wr.cell? ⟨g, 2, none⟩ = some (.int .u32 l)) ∧ (wr.cell? ⟨h, 0, none⟩ = some (.bool z) ∧ wr.cell? ⟨h, 1, none⟩ = some (.int .u32 o2) ∧ wr.cell? ⟨h, 2, none⟩ = some (.int .u32 l)) ∧ 0 ≤ o1 ∧ o1 ≤ 4294967295 ∧ o2 = (o1 - q) % 4294967296 ∧ (wr.frozen? ⟨g, 0, none⟩ = false ∧ wr.frozen? ⟨g, 1, none⟩ = false ∧ wr.frozen? ⟨g, 2, none⟩ = false) ∧ (wr.frozen? ⟨h, 0, none⟩ = false ∧ wr.frozen? ⟨h, 1, none⟩ = false ∧ wr.frozen? ⟨h, 2, none⟩ = false) ∧ g < wr.heap.size ∧ h < wr.heap.size ∧ Below w.heap.size w wr) (fun i _ => len - (intOf i).toNat)
    case atStart => exact ⟨0, y, y, o1, o2, l, by omega, rfl, ⟨g0, g1, g2⟩, ⟨h0, h1, h2⟩, hb1, hb2, ho2, ⟨f0, f1, f2⟩, ⟨e0, e1, e2⟩, hgz, hhz, hbel⟩
    case round =>
      clear g0 g1 g2 h0 h1 h2 hb1 hb2 ho2 f0 f1 f2 e0 e1 e2 hgz hhz hbel
      obtain ⟨k, y, z, o1, o2, l, hk, rfl, ⟨g0, g1, g2⟩, ⟨h0, h1, h2⟩, hb1, hb2, ho2, ⟨f0, f1, f2⟩, ⟨e0, e1, e2⟩, hgz, hhz, hbel⟩ := hrel
      have oldg : Old g wr := ⟨hgz⟩
      have oldh : Old h wr := ⟨hhz⟩
      by_cases hlt : k < len ∧ k < 100
      · obtain ⟨k1, k2⟩ := hlt
        obtain ⟨b, off, x, rfl, hb, hx, hx0, hx1⟩ := hcell k k1
        have hxr : wr.cell? ⟨b, off + k, none⟩ = some (.int .u32 x) := by rw [hbel.cell (p := ⟨b, _, none⟩) hb]; exact hx
        have hbo : Old b wr := ⟨Nat.lt_of_lt_of_le hb hbel.size⟩
        have hkk : ((k : Int)) < 100 := by omega
        have HO := Lib.hid ho2
        clear hlen hcell ho2
        go_upto_region 7 with fail
        go_cut [12, 13] (fun s12 s13 wx => ∃ p, s12 = .pointer (some ⟨p, 0, none⟩) ∧ s13 = .int .u32 ((x + o1) % 4294967296) ∧ (wx.cell? ⟨p, 0, none⟩ = some (.bool true) ∧ wx.cell? ⟨p, 1, none⟩ = some (.int .u32 o1) ∧ wx.cell? ⟨p, 2, none⟩ = some (.int .u32 ((x + o1) % 4294967296))) ∧ (wx.cell? ⟨h, 0, none⟩ = some (.bool z) ∧ wx.cell? ⟨h, 1, none⟩ = some (.int .u32 o2) ∧ wx.cell? ⟨h, 2, none⟩ = some (.int .u32 l)) ∧ (wx.frozen? ⟨g, 0, none⟩ = false ∧ wx.frozen? ⟨g, 1, none⟩ = false ∧ wx.frozen? ⟨g, 2, none⟩ = false) ∧ (wx.frozen? ⟨h, 0, none⟩ = false ∧ wx.frozen? ⟨h, 1, none⟩ = false ∧ wx.frozen? ⟨h, 2, none⟩ = false) ∧ g < wx.heap.size ∧ h < wx.heap.size ∧ p < wx.heap.size ∧ w.heap.size ≤ p ∧ p ≠ g ∧ p ≠ h ∧ (∃ v0 v1 v2, (wx.cell? ⟨g, 0, none⟩ = some (v0) ∧ wx.cell? ⟨g, 1, none⟩ = some (v1) ∧ wx.cell? ⟨g, 2, none⟩ = some (v2))) ∧ Below w.heap.size w wx)
        case first =>
          go_region_held3 (fun w' => w'.cell? ⟨g, 0, none⟩ = some (.bool y) ∧ w'.cell? ⟨g, 1, none⟩ = some (.int .u32 o1) ∧ w'.cell? ⟨g, 2, none⟩ = some (.int .u32 l) ∧ w'.cell? ⟨b, off + k, none⟩ = some (.int .u32 x)) (first | (simp [*, go_sem]; done) | simp [*, go_sem, World.cell?_setCell_far])
            (first | (go_at_call 20; refine (clockStep _ _ _ _ _).mono ?_; rintro e w1 ⟨rfl, hb1⟩; have ha1 : After _ w1 := ⟨hb1⟩; obtain ⟨hc1, hf1⟩ := after hb1; have hz1 := hb1.size; try simp at hz1))
          all_goals (go_wp2_with fail; go_meet)
          all_goals refine ⟨_, rfl, rfl, ?_, ?_, ?_, ?_, ?_, ?_, ?_, ?_, ?_, ?_, ⟨.bool y, .int .u32 o1, .int .u32 l, ?_⟩, ?_⟩
          all_goals first | (show RowKit.Below _ _ _; (repeat (first | with_reducible exact Below.refl _ _ | (with_reducible refine Below.alloc ?_ ?_ _; rotate_left; focus ((try simp) <;> omega)) | (with_reducible refine Below.setCell ?_ ?_ _; rotate_left; focus ((try simp) <;> omega)) | (with_reducible refine below_grow ?_ ?_; rotate_left; focus ((try simp) <;> omega)) | with_reducible refine Below.drew ?_ | with_reducible refine below_drewN ?_ | with_reducible assumption | (with_reducible refine below_step (by assumption) ?_ ?_; rotate_left; focus ((try simp) <;> omega)))); done) | (simp [*, go_sem]; done) | omega | (simp; omega) | (simp [*, go_sem, World.cell?_setCell_far]; done)
        case rest =>
          obtain ⟨p, rfl, rfl, ⟨p0, p1, p2⟩, ⟨j0, j1, j2⟩, ⟨m0, m1, m2⟩, ⟨n0, n1, n2⟩, hgz2, hhz2, hpz, hwp, hpg, hph, ⟨u0, u1, u2, r0, r1, r2⟩, hbel2⟩ := hcut
          clear g0 g1 g2 h0 h1 h2 f0 f1 f2 e0 e1 e2 hxr
          have hxc : wc.cell? ⟨b, off + k, none⟩ = some (.int .u32 x) := by rw [hbel2.cell (p := ⟨b, _, none⟩) hb]; exact hx
          have oldg2 : Old g wc := ⟨hgz2⟩
          have oldh2 : Old h wc := ⟨hhz2⟩
          have oldp2 : Old p wc := ⟨hpz⟩
          have oldb2 : Old b wc := ⟨Nat.lt_of_lt_of_le hb hbel2.size⟩
          have H2 : (x + q + o2) % 4294967296 = (x + o1) % 4294967296 := by have := HO.out; omega
          have H2' := Lib.hid H2
          clear H2
          have hwr : IntKind.u32.wrap (x + q) = (x + q) % 4294967296 := by rw [IntKind.wrap_u32]
          go_upto_region 8 with fail
          obtain ⟨wo, hwo⟩ : ∃ wo : World, wo = wc := ⟨_, rfl⟩
          subst hwo
          go_cut [14, 15] (fun s14 s15 wx => ∃ t v, s14 = .pointer (some ⟨t, 0, none⟩) ∧ s15 = .int .u32 v ∧ v = (x + o1) % 4294967296 ∧ (wx.cell? ⟨t, 0, none⟩ = some (.bool true) ∧ wx.cell? ⟨t, 1, none⟩ = some (.int .u32 o2) ∧ wx.cell? ⟨t, 2, none⟩ = some (.int .u32 v)) ∧ (wx.cell? ⟨p, 0, none⟩ = some (.bool true) ∧ wx.cell? ⟨p, 1, none⟩ = some (.int .u32 o1) ∧ wx.cell? ⟨p, 2, none⟩ = some (.int .u32 ((x + o1) % 4294967296))) ∧ (wx.frozen? ⟨g, 0, none⟩ = false ∧ wx.frozen? ⟨g, 1, none⟩ = false ∧ wx.frozen? ⟨g, 2, none⟩ = false) ∧ (wx.frozen? ⟨h, 0, none⟩ = false ∧ wx.frozen? ⟨h, 1, none⟩ = false ∧ wx.frozen? ⟨h, 2, none⟩ = false) ∧ g < wx.heap.size ∧ h < wx.heap.size ∧ p < wx.heap.size ∧ t < wx.heap.size ∧ t ≠ g ∧ t ≠ h ∧ t ≠ p ∧ (∃ v0 v1 v2, (wx.cell? ⟨g, 0, none⟩ = some (v0) ∧ wx.cell? ⟨g, 1, none⟩ = some (v1) ∧ wx.cell? ⟨g, 2, none⟩ = some (v2))) ∧ (∃ v0 v1 v2, (wx.cell? ⟨h, 0, none⟩ = some (v0) ∧ wx.cell? ⟨h, 1, none⟩ = some (v1) ∧ wx.cell? ⟨h, 2, none⟩ = some (v2))) ∧ Below w.heap.size w wx)
          case first =>
            go_region_held3 (fun w' => w'.cell? ⟨h, 0, none⟩ = some (.bool z) ∧ w'.cell? ⟨h, 1, none⟩ = some (.int .u32 o2) ∧ w'.cell? ⟨h, 2, none⟩ = some (.int .u32 l) ∧ w'.cell? ⟨b, off + k, none⟩ = some (.int .u32 x)) (first | (simp [*, go_sem]; done) | simp [*, go_sem, World.cell?_setCell_far])
              (first | (go_at_call 20; refine (clockStep _ _ _ _ _).mono ?_; rintro e w1 ⟨rfl, hb1⟩; have ha1 : After _ w1 := ⟨hb1⟩; obtain ⟨hc1, hf1⟩ := after hb1; have hz1 := hb1.size; try simp at hz1))
            all_goals (go_wp2_with fail; go_meet)
            all_goals refine ⟨_, _, rfl, rfl, H2'.out, ?_, ?_, ?_, ?_, ?_, ?_, ?_, ?_, ?_, ?_, ?_, ⟨u0, u1, u2, ?_⟩, ⟨.bool z, .int .u32 o2, .int .u32 l, ?_⟩, ?_⟩
            all_goals first | (show RowKit.Below _ _ _; (repeat (first | with_reducible exact Below.refl _ _ | (with_reducible refine Below.alloc ?_ ?_ _; rotate_left; focus ((try simp) <;> omega)) | (with_reducible refine Below.setCell ?_ ?_ _; rotate_left; focus ((try simp) <;> omega)) | (with_reducible refine below_grow ?_ ?_; rotate_left; focus ((try simp) <;> omega)) | with_reducible refine Below.drew ?_ | with_reducible refine below_drewN ?_ | with_reducible assumption | (with_reducible refine below_step (by assumption) ?_ ?_; rotate_left; focus ((try simp) <;> omega)))); done) | (simp [*, go_sem]; done) | omega | (simp; omega) | (simp [*, go_sem, World.cell?_setCell_far]; done)
          case rest =>
            clear j0 j1 j2 p0 p1 p2 m0 m1 m2 n0 n1 n2 r0 r1 r2 hgz2 hhz2 hpz hxc hwr oldg2 oldh2 oldp2
            obtain ⟨t, v, rfl, rfl, rfl, ⟨t0, t1, t2⟩, ⟨p0, p1, p2⟩, ⟨m0, m1, m2⟩, ⟨n0, n1, n2⟩, hgz3, hhz3, hpz3, htz3, htg, hth, htp, ⟨u0, u1, u2, r0, r1, r2⟩, ⟨q0, q1, q2, j0, j1, j2⟩, hbel3⟩ := hcut
            go_wp2
            go_region
            all_goals go_wp2
            all_goals go_roundw
            all_goals try (case measure => simp [intOf]; omega)
            all_goals refine ⟨k + 1, true, true, o1, o2, (x + o1) % 4294967296, by omega, by go_num, ?_, ?_, hb1, hb2, HO.out, ?_, ?_, ?_, ?_, ?_⟩
            all_goals first | (show RowKit.Below _ _ _; (repeat (first | with_reducible exact Below.refl _ _ | (with_reducible refine Below.alloc ?_ ?_ _; rotate_left; focus ((try simp) <;> omega)) | (with_reducible refine Below.setCell ?_ ?_ _; rotate_left; focus ((try simp) <;> omega)) | (with_reducible refine below_grow ?_ ?_; rotate_left; focus ((try simp) <;> omega)) | with_reducible refine Below.drew ?_ | with_reducible refine below_drewN ?_ | with_reducible assumption | (with_reducible refine below_step (by assumption) ?_ ?_; rotate_left; focus ((try simp) <;> omega)))); done) | (simp [*, go_sem]; done) | omega | (simp; omega) | (simp [*, go_sem, World.cell?_setCell_far]; done)
      · clear hcell
        by_cases hkl : k < len
        · have hk1 : (100 : Int) ≤ (k : Int) := by omega
          go_wp2
          refine ret_any ⟨_, by simp [results, Try.results6, go_sem, *]; rfl, ?_⟩ rfl
          exact gives_of rfl hbel
        · go_wp2
          refine ret_any ⟨_, by simp [results, Try.results6, go_sem, *]; rfl, ?_⟩ rfl
          exact gives_of rfl hbel
end Go.Proofs.Ytplhgpeeekjfcaa
