/-
  all: every handle that is held, one behind the other, by its contract. No condition but that they are not too many.
-/
import Derived.Test.YtjlclpdjblicjaaAuditOf
import Derived.Lib.AppendZeros
namespace Go.Proofs.Ytjlclpdjblicjaa
open Go.RowKit Go.Sort Go.BigFrame
set_option linter.unusedVariables false
attribute [local go_sem ↓] Go.wp_at_zero Go.wp_at_succ
theorem info30 : (Try.prog.info? 30).map (fun i => (i.zero, i.size, i.bytes)) = some (some (.agg #[.int .i64 0, .int .u32 0]), 2, 16) := by kernel_rfl
/-- A slice of no elements, with room. -/
theorem Line.room0 {w : World} {b c size : Nat} {cs : Array Value} {t : TypeId} (h : BlkIs w b cs t) (hs : cs.size = c * size) (hc : c ≤ maxLen) {base : Nat} (hb : base ≤ b) : Line w base size (.slice (some ⟨b, 0, none⟩) 0 c) 0 [] := by
  refine ⟨by simp, Or.inr ⟨b, 0, c, rfl, hb, h.lt, Nat.zero_le _, hc, fun j u hu => by simp at hu, fun j hj => ?_⟩⟩
  have := there_blk (w := w) (b := b) (cs := cs) (t := t) 0 cs.size (by omega) j (by omega)
  exact this
/-- append by its run. -/
theorem wpList_append_run {P : Program} {ops : Array Oper} {rest : List Oper} {o : Oper} {a : Act} {w w' : World} {Q : Exit → Act → World → Prop} (hgd : o.guard = none) (s x : Operand) (ts : Array TypeId)
    (ho : o.op = .call { callee := .builtin .append, args := #[s, x], argTypes := ts }) {v y v' : Value} (hs : a.eval s = v) (hx : a.eval x = y) (hr : (Builtin.append_ ts o.type #[v, y]).run P w = .ok v' w')
    (h : wpList P ops Q rest (a.put o.dst v') w') : wpList P ops Q (o :: rest) a w :=
  wpList_plain hgd fun K hK => by
    unfold Oper.wp execOp
    simp only [ho, resolve, invoke, builtin, Sem.run_bind, Sem.run_pure, Result.andThen_ok, List.map_toArray, List.map_cons, List.map_nil, hs, hx, hr]
    exact hK _ _ h
set_option maxRecDepth 100000 in
theorem growR (n : Nat) (hn : n ≤ 100000000) (w : World) : Calls Try.prog 55 #[.slice none 0 0, .int .i64 n] w fun e w' => ∃ v, e = .returned v ∧ Line w' w.heap.size 2 v 0 [] ∧ Below w.heap.size w w' := by
  by_cases h0 : n = 0
  · subst h0
    go_enter Try.func55, Try.ntmps55
    go_wp2
    refine ret_any ⟨_, by simp [results, Try.results55, go_sem]; rfl, ?_⟩ rfl
    exact ⟨_, rfl, Line.nil _ _ _, (by repeat (first | with_reducible exact Below.refl _ _ | (with_reducible refine Below.alloc ?_ ?_ _; rotate_left; focus ((try simp) <;> omega)) | (with_reducible refine Below.setCell ?_ ?_ _; rotate_left; focus ((try simp) <;> omega)) | (with_reducible refine below_grow ?_ ?_; rotate_left; focus ((try simp) <;> omega)) | (with_reducible refine below_putB ?_ ?_; rotate_left; focus ((try simp) <;> omega)) | with_reducible refine Below.drew ?_ | with_reducible refine below_drewN ?_ | with_reducible assumption | (with_reducible refine below_step (by assumption) ?_ ?_; rotate_left; focus ((try simp) <;> omega))))⟩
  · have i1 : (0 : Int) < (n : Int) := by omega
    obtain ⟨i0, hi, hz0, hz1, hz2⟩ := info_parts info30
    have hr := Lib.run_append_nil_zeros (P := Try.prog) w 69 3 69 30 i0 _ .i64 .i64 Try.underlying69 Try.underlying3 hi hz0 n (by omega) (by omega) (by omega) (by rw [hz2]; omega)
    have hge := grownCap_ge w n 0 30
    have hcm : grownCap w n 0 30 ≤ maxLen := grownCap_le_maxLen w n 0 30 (by unfold maxLen; omega)
    obtain ⟨c, hc⟩ : ∃ c, c = grownCap w n 0 30 := ⟨_, rfl⟩
    rw [← hc] at hr hge hcm
    obtain ⟨cs, hcs⟩ : ∃ cs, cs = Builtin.zeroCells (Value.agg #[.int .i64 0, .int .u32 0]).cells n ++ Builtin.zeroCells (Value.agg #[.int .i64 0, .int .u32 0]).cells (c - n) := ⟨_, rfl⟩
    rw [← hcs] at hr
    have hsz : cs.size = c * 2 := by
      rw [hcs, Array.size_append, size_zeroCells, size_zeroCells, show (Value.agg #[.int .i64 0, .int .u32 0]).cells.size = 2 from rfl]
      omega
    have HS := Lib.hid hsz
    have hcm' := hcm
    unfold maxLen at hcm'
    have HRR := Lib.hid hr
    clear hc hcs hsz hi hz0 hz1 hz2 hr
    go_enter Try.func55, Try.ntmps55
    go_wp2_with (at_builtin; refine wpList_append_run (by rfl) _ _ _ (by rfl) (by rfl) (by rfl) HRR.out ?_)
    refine ret_any ⟨_, by simp [results, Try.results55, go_sem, *]; rfl, ?_⟩ rfl
    exact ⟨_, rfl, Line.room0 (cs := cs) (t := 30) (by infer_instance) HS.out hcm (Nat.le_refl _), (by repeat (first | with_reducible exact Below.refl _ _ | (with_reducible refine Below.alloc ?_ ?_ _; rotate_left; focus ((try simp) <;> omega)) | (with_reducible refine Below.setCell ?_ ?_ _; rotate_left; focus ((try simp) <;> omega)) | (with_reducible refine below_grow ?_ ?_; rotate_left; focus ((try simp) <;> omega)) | (with_reducible refine below_putB ?_ ?_; rotate_left; focus ((try simp) <;> omega)) | with_reducible refine Below.drew ?_ | with_reducible refine below_drewN ?_ | with_reducible assumption | (with_reducible refine below_step (by assumption) ?_ ?_; rotate_left; focus ((try simp) <;> omega))))⟩
/-- The first of three. -/
def cat3 (R W H : List (Int × Int)) (k : Nat) : List (Int × Int) := match k with
  | 0 => []
  | 1 => R
  | 2 => R ++ W
  | _ => R ++ W ++ H
set_option maxRecDepth 100000 in
set_option maxHeartbeats 4000000 in
theorem catR {b nr nw nh : Nat} {rv wv hv : Value} {R Wr H : List (Int × Int)} {w : World} (hb : BlkIs w b #[rv, wv, hv] 69)
    (hR : Has w 2 rv nr (hds R)) (hW : Has w 2 wv nw (hds Wr)) (hH : Has w 2 hv nh (hds H)) (h1 : nr ≤ 10000000) (h2 : nw ≤ 10000000) (h3 : nh ≤ 10000000) :
    Calls Try.prog 54 #[.slice (some ⟨b, 0, none⟩) 3 3] w fun e w' => ∃ v, e = .returned v ∧ Line w' w.heap.size 2 v (nr + nw + nh) (hds (R ++ Wr ++ H)) ∧ Below w.heap.size w w' := by
  have HR := Lib.hid hR
  have HW := Lib.hid hW
  have HH := Lib.hid hH
  obtain ⟨ra, rc, rfl, _, hrc⟩ := hR.shape
  obtain ⟨wa, wc, rfl, _, hwc⟩ := hW.shape
  obtain ⟨ha, hc, rfl, _, hhc⟩ := hH.shape
  unfold maxLen at hrc hwc hhc
  have ob : Old b w := ⟨hb.lt⟩
  clear hR hW hH
  obtain ⟨i0, hi, hz0, hz1, hz2⟩ := info_parts info30
  have HI := And.intro (Lib.hid hi) (And.intro (Lib.hid hz0) (And.intro (Lib.hid hz1) (Lib.hid hz2)))
  clear hi hz0 hz1 hz2
  have kg := growR (nr + nw + nh) (by omega)
  have KG := Lib.hid kg
  clear kg
  go_enter Try.func54, Try.ntmps54
  go_wp2_with fail
  go_loopw [3, 11] (fun s3 s11 wr => wr = w ∧ ∃ k : Nat, k ≤ 3 ∧ s11 = .int .i64 k ∧ s3 = .int .i64 (if k = 0 then 0 else if k = 1 then (nr : Int) else if k = 2 then (nr : Int) + nw else (nr : Int) + nw + nh)) (fun _ i _ => 3 - (intOf i).toNat)
  case atStart => exact ⟨rfl, 0, by omega, rfl, rfl⟩
  case round =>
    obtain ⟨rfl, k, hk, rfl, rfl⟩ := hrel
    rcases (show k = 0 ∨ k = 1 ∨ k = 2 ∨ k = 3 by omega) with rfl | rfl | rfl | rfl
    · go_wp2_with fail
      go_roundw
      case rel => exact ⟨by first | trivial | rfl, 1, by omega, by first | rfl | go_num, by simp⟩
      case measure => simp [intOf]
    · go_wp2_with fail
      go_roundw
      case rel => exact ⟨by first | trivial | rfl, 2, by omega, by first | rfl | go_num, by simp⟩
      case measure => simp [intOf]
    · go_wp2_with fail
      go_roundw
      case rel => exact ⟨by first | trivial | rfl, 3, by omega, by first | rfl | go_num, by simp⟩
      case measure => simp [intOf]
    · obtain ⟨wo, hwo⟩ : ∃ wo : World, wo = wr := ⟨_, rfl⟩
      subst hwo
      rw [if_neg (by omega), if_neg (by omega), if_neg (by omega)]
      have hk : ((nr : Int) + nw + nh) = ((nr + nw + nh : Nat) : Int) := by omega
      rw [hk]
      clear hk
      go_wp2_with fail
      refine (KG.out _).mono ?_; rintro e w2 ⟨v2, rfl, hL2, hb2⟩
      have hbs := hb2.size
      have HL2 := Lib.hid hL2
      clear hL2
      go_wp2_with fail
      go_loopw [6, 27] (fun s6 s27 wx => ∃ k n : Nat, k ≤ 3 ∧ s27 = .int .i64 k ∧ n = (if k = 0 then 0 else if k = 1 then nr else if k = 2 then nr + nw else nr + nw + nh) ∧ Line wx wo.heap.size 2 s6 n (hds (cat3 R Wr H k)) ∧ Below wo.heap.size wo wx) (fun _ i _ => 3 - (intOf i).toNat)
      case atStart => exact ⟨0, 0, by omega, rfl, rfl, HL2.out, hb2⟩
      case round =>
        obtain ⟨k, n, hk, rfl, hn, hown, hbel⟩ := hrel
        have hbls := hbel.size
        have hbx : BlkIs wr b #[.slice ra nr rc, .slice wa nw wc, .slice ha nh hc] 69 := ⟨by rw [hbel.block b hb.lt]; exact hb.eq⟩
        have HO := Lib.hid hown
        clear hown
        rcases (show k = 0 ∨ k = 1 ∨ k = 2 ∨ k = 3 by omega) with rfl | rfl | rfl | rfl
        · have hn0 : n ≤ 0 := by simp at hn; omega
          clear hn
          go_wp2_with (at_builtin; refine wpList_append_line _ (by rfl) _ _ 69 (by rfl) wo.heap.size 30 i0 _ 2 16 Try.underlying69 HI.1.out HI.2.1.out HI.2.2.1.out HI.2.2.2.out rfl (by decide) _ _ n nr (hds (cat3 R Wr H 0)) (hds R) (by rfl) (by rfl) HO.out ((HR.out.keep hbel).src' (hds_one _)) (by unfold maxLen; omega) (by omega) hbls _ rfl ?_; intro v5 w5 hown5 hgrow5 hat5)
          have hB5 : RowKit.Below wo.heap.size wo w5 := RowKit.Below.grown (w := wr) hbel hgrow5 hbls (fun q hq => (HO.out.lt hq).1)
          rw [← hds_app] at hown5
          have HO5 := Lib.hid hown5
          clear hown5 hgrow5 hat5
          go_roundw
          case rel => exact ⟨1, n + nr, by omega, by first | rfl | go_num, by simp; omega, HO5.out, hB5⟩
          case measure => simp [intOf]
        · have hn0 : n ≤ nr ∧ nr ≤ n := by simp at hn; omega
          clear hn
          go_wp2_with (at_builtin; refine wpList_append_line _ (by rfl) _ _ 69 (by rfl) wo.heap.size 30 i0 _ 2 16 Try.underlying69 HI.1.out HI.2.1.out HI.2.2.1.out HI.2.2.2.out rfl (by decide) _ _ n nw (hds (cat3 R Wr H 1)) (hds Wr) (by rfl) (by rfl) HO.out ((HW.out.keep hbel).src' (hds_one _)) (by unfold maxLen; omega) (by omega) hbls _ rfl ?_; intro v5 w5 hown5 hgrow5 hat5)
          have hB5 : RowKit.Below wo.heap.size wo w5 := RowKit.Below.grown (w := wr) hbel hgrow5 hbls (fun q hq => (HO.out.lt hq).1)
          rw [← hds_app] at hown5
          have HO5 := Lib.hid hown5
          clear hown5 hgrow5 hat5
          go_roundw
          case rel => exact ⟨2, n + nw, by omega, by first | rfl | go_num, by simp; omega, HO5.out, hB5⟩
          case measure => simp [intOf]
        · have hn0 : n ≤ nr + nw ∧ nr + nw ≤ n := by simp at hn; omega
          clear hn
          go_wp2_with (at_builtin; refine wpList_append_line _ (by rfl) _ _ 69 (by rfl) wo.heap.size 30 i0 _ 2 16 Try.underlying69 HI.1.out HI.2.1.out HI.2.2.1.out HI.2.2.2.out rfl (by decide) _ _ n nh (hds (cat3 R Wr H 2)) (hds H) (by rfl) (by rfl) HO.out ((HH.out.keep hbel).src' (hds_one _)) (by unfold maxLen; omega) (by omega) hbls _ rfl ?_; intro v5 w5 hown5 hgrow5 hat5)
          have hB5 : RowKit.Below wo.heap.size wo w5 := RowKit.Below.grown (w := wr) hbel hgrow5 hbls (fun q hq => (HO.out.lt hq).1)
          rw [← hds_app] at hown5
          have HO5 := Lib.hid hown5
          clear hown5 hgrow5 hat5
          go_roundw
          case rel => exact ⟨3, n + nh, by omega, by first | rfl | go_num, by simp; omega, HO5.out, hB5⟩
          case measure => simp [intOf]
        · have hn0 : n = nr + nw + nh := by simpa using hn
          have HN0 := Lib.hid hn0
          clear hn hn0
          go_wp2_with fail
          refine ret_any ⟨_, by simp [results, Try.results54, go_sem, *]; rfl, ?_⟩ rfl
          have h := HO.out
          rw [HN0.out] at h
          exact ⟨_, rfl, h, hbel⟩
end Go.Proofs.Ytjlclpdjblicjaa
