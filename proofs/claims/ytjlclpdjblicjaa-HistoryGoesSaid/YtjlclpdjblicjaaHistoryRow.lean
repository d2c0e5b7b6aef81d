/-
  The law HistoryRow as a walk: of numbers that rise by one just the last ones are found. No condition but that the arguments fit their types.
-/
import Derived.Test.YtjlclpdjblicjaaHistMid
import Derived.Deep.DeepCutAuto
namespace Go.Proofs.Ytjlclpdjblicjaa
open Go.RowKit Go.Sort Go.BigFrame
set_option linter.unusedVariables false
attribute [local go_sem ↓] Go.wp_at_zero Go.wp_at_succ
def rowN (f : Int) (i : Nat) : Ent := ((f + i) % 65536, 0, 0, 0, i, 0, 0)
def rowH (f : Int) (k : Nat) : List Ent := (List.range k).map (rowN f)
theorem rowH_succ (f : Int) (k : Nat) : rowH f (k + 1) = rowH f k ++ [rowN f k] := by simp [rowH, List.range_succ]
theorem rowH_len (f : Int) (k : Nat) : (rowH f k).length = k := by simp [rowH]
theorem rowL_getD (f : Int) (m M j : Nat) (h : m - M + j < m) : (lastE (rowH f m) M).getD j e0 = rowN f (m - M + j) := by
  unfold lastE
  rw [rowH_len, List.getD_eq_getElem?_getD, List.getElem?_drop]
  unfold rowH
  rw [List.getElem?_map, List.getElem?_range h]
  rfl
theorem find_row_yes (f a : Int) (m M d : Nat) (hm : m ≤ 300) (ha0 : 0 ≤ a) (ha1 : a ≤ 65535) (hd : (d : Int) = (a - f) % 65536) (h1 : d < m) (h2 : m - M ≤ d) : findE (lastE (rowH f m) M) a = some (rowN f d) := by
  have hl : (lastE (rowH f m) M).length = m - (m - M) := by rw [lastE_len, rowH_len]
  have e := rowL_getD f m M (d - (m - M)) (by omega)
  rw [show m - M + (d - (m - M)) = d by omega] at e
  rw [← e]
  refine findE_at (d - (m - M)) (by omega) (by rw [e]; simp only [rowN]; omega) (fun i h3 h4 => ?_)
  rw [rowL_getD f m M i (by omega)]
  simp only [rowN]
  omega
theorem find_row_no (f a : Int) (m M d : Nat) (hm : m ≤ 300) (hd : (d : Int) = (a - f) % 65536) (h : ¬ (d < m ∧ m - M ≤ d)) : findE (lastE (rowH f m) M) a = none := by
  have hl : (lastE (rowH f m) M).length = m - (m - M) := by rw [lastE_len, rowH_len]
  refine findE_none (fun i hi => ?_)
  rw [rowL_getD f m M i (by omega)]
  simp only [rowN]
  omega
set_option maxRecDepth 100000 in
set_option maxHeartbeats 4000000 in
theorem historyRow_ok (v0 v1 v2 v3 : Value) (w : World) (h0 : Arg Try.prog w 3 v0) (h1 : Arg Try.prog w 50 v1) (h2 : Arg Try.prog w 3 v2) (h3 : Arg Try.prog w 50 v3) : Calls Try.prog 9 #[v0, v1, v2, v3] w (Gives (.bool true) w) := by
  obtain ⟨n, rfl, hn, hn'⟩ := arg_i64 Try.underlying3 h0
  obtain ⟨f, rfl, hf, hf'⟩ := arg_u16 Try.underlying50 h1
  obtain ⟨mi, rfl, hm, hm'⟩ := arg_i64 Try.underlying3 h2
  obtain ⟨a, rfl, ha, ha'⟩ := arg_u16 Try.underlying50 h3
  clear h0 h1 h2 h3
  by_cases hneg : mi < 0
  · go_enter Try.func9, Try.ntmps9
    go_wp2_with (first | (go_at_call 27; refine (shown18 _).mono ?_; rintro e w1 ⟨rfl, hb1⟩; have ha1 : After _ w1 := ⟨hb1⟩; obtain ⟨hc1, hf1⟩ := after hb1; have hz1 := hb1.size; try simp at hz1))
    refine ret_any ⟨_, by simp [results, Try.results9, go_sem, *]; rfl, ?_⟩ rfl
    exact gives_of rfl (by repeat (first | with_reducible exact Below.refl _ _ | (with_reducible refine Below.alloc ?_ ?_ _; rotate_left; focus ((try simp) <;> omega)) | (with_reducible refine Below.setCell ?_ ?_ _; rotate_left; focus ((try simp) <;> omega)) | (with_reducible refine below_grow ?_ ?_; rotate_left; focus ((try simp) <;> omega)) | (with_reducible refine below_putB ?_ ?_; rotate_left; focus ((try simp) <;> omega)) | with_reducible refine Below.drew ?_ | with_reducible refine below_drewN ?_ | with_reducible assumption | (with_reducible refine below_step (by assumption) ?_ ?_; rotate_left; focus ((try simp) <;> omega))))
  by_cases hbig : 300 < mi
  · go_enter Try.func9, Try.ntmps9
    go_wp2_with (first | (go_at_call 27; refine (shown18 _).mono ?_; rintro e w1 ⟨rfl, hb1⟩; have ha1 : After _ w1 := ⟨hb1⟩; obtain ⟨hc1, hf1⟩ := after hb1; have hz1 := hb1.size; try simp at hz1))
    refine ret_any ⟨_, by simp [results, Try.results9, go_sem, *]; rfl, ?_⟩ rfl
    exact gives_of rfl (by repeat (first | with_reducible exact Below.refl _ _ | (with_reducible refine Below.alloc ?_ ?_ _; rotate_left; focus ((try simp) <;> omega)) | (with_reducible refine Below.setCell ?_ ?_ _; rotate_left; focus ((try simp) <;> omega)) | (with_reducible refine below_grow ?_ ?_; rotate_left; focus ((try simp) <;> omega)) | (with_reducible refine below_putB ?_ ?_; rotate_left; focus ((try simp) <;> omega)) | with_reducible refine Below.drew ?_ | with_reducible refine below_drewN ?_ | with_reducible assumption | (with_reducible refine below_step (by assumption) ?_ ?_; rotate_left; focus ((try simp) <;> omega))))
  obtain ⟨m, rfl⟩ : ∃ m : Nat, mi = m := ⟨mi.toNat, by omega⟩
  have hm3 : m ≤ 300 := by omega
  clear hneg hbig hm hm'
  have hM := mostN_eq n
  have hM4 := mostN_le n
  obtain ⟨M, hMM⟩ : ∃ M, M = mostN n := ⟨_, rfl⟩
  rw [← hMM] at hM hM4
  have HMM := Lib.hid hMM
  have HM := Lib.hid hM
  clear hM hMM
  have i1 : (m : Int) ≤ 300 := by omega
  have i2 : (0 : Int) ≤ (m : Int) := by omega
  go_enter Try.func9, Try.ntmps9
  go_wp2_with (first | (go_at_call 27; refine (shown18 _).mono ?_; rintro e w1 ⟨rfl, hb1⟩; have ha1 : After _ w1 := ⟨hb1⟩; obtain ⟨hc1, hf1⟩ := after hb1; have hz1 := hb1.size; try simp at hz1))
  obtain ⟨W, hW⟩ : ∃ W : World, W = w1 := ⟨_, rfl⟩
  subst hW
  have hWb : RowKit.Below w.heap.size w W := (by repeat (first | with_reducible exact Below.refl _ _ | (with_reducible refine Below.alloc ?_ ?_ _; rotate_left; focus ((try simp) <;> omega)) | (with_reducible refine Below.setCell ?_ ?_ _; rotate_left; focus ((try simp) <;> omega)) | (with_reducible refine below_grow ?_ ?_; rotate_left; focus ((try simp) <;> omega)) | (with_reducible refine below_putB ?_ ?_; rotate_left; focus ((try simp) <;> omega)) | with_reducible refine Below.drew ?_ | with_reducible refine below_drewN ?_ | with_reducible assumption | (with_reducible refine below_step (by assumption) ?_ ?_; rotate_left; focus ((try simp) <;> omega))))
  have hWs := hWb.size
  clear hc1 hf1 ha1 hb1 hz1
  refine (newJ _ n hn hn').mono ?_; rintro e w2 ⟨rfl, J2, hz2⟩
  obtain ⟨hb, hhb⟩ : ∃ hb, hb = W.heap.size := ⟨_, rfl⟩
  rw [← hhb, ← HMM.out] at J2
  rw [← hhb]
  have J2' := Lib.hid J2
  clear J2 hhb
  go_wp2_with fail
  go_loopw [10] (fun s10 wr => ∃ (k : Nat) (v : Value), k ≤ m ∧ s10 = .int .i64 k ∧ HistJ W wr hb M v (lastE (rowH f k) M)) (fun i _ => m - (intOf i).toNat)
  case atStart => exact ⟨0, _, by omega, rfl, by simpa [rowH, lastE] using J2'.out⟩
  case round =>
    obtain ⟨k, v, hk, rfl, J⟩ := hrel
    have JH := Lib.hid J
    by_cases hlt : k < m
    · have i3 : (k : Int) < (m : Int) := by omega
      have i4 : (0 : Int) ≤ (k : Int) := by omega
      have i5 : (k : Int) % 65536 = k := by omega
      have i6 : (k : Int) % 4294967296 = k := by omega
      have i7 : (k : Int) < 300 := by omega
      have hx : ((f + (k : Int)) % 65536, 0, 0, 0, (k : Int), 0, 0) = rowN f k := rfl
      have hs := rowH_succ f k
      have hl := rowH_len f k
      have HX := Lib.hid hx
      have HS := Lib.hid hs
      have HL := Lib.hid hl
      clear J hx hs hl
      by_cases hkM : k < M
      · have hin := lastE_in (rowH f k) M (rowN f k) (by rw [HL.out]; exact hkM)
        have kp := pushInJ (e := ((f + (k : Int)) % 65536, 0, 0, 0, (k : Int), 0, 0)) (X := wr) JH.out (by rw [lastE_len, HL.out]; omega) (Below.refl _ _)
        simp only [entC] at kp
        rw [HX.out, ← hin, ← HS.out] at kp
        have KP := Lib.hid kp
        clear kp hin
        go_wp2_with fail
        refine KP.out.mono ?_; rintro e w3 ⟨rfl, v', J', F', _⟩
        have J'' := Lib.hid J'
        clear J' F'
        go_wp2_with fail
        go_roundw
        case rel => exact ⟨k + 1, v', by omega, by go_num, J''.out⟩
        case measure => simp [intOf]; omega
      · obtain ⟨y, hyr⟩ := lastE_out (rowH f k) M (rowN f k) (by rw [HL.out]; omega)
        rw [← HS.out] at hyr
        have kp := pushOutJ (e := ((f + (k : Int)) % 65536, 0, 0, 0, (k : Int), 0, 0)) (X := wr) JH.out (by rw [lastE_len, HL.out]; omega) (by rw [HX.out]; exact hyr) (Below.refl _ _)
        simp only [entC] at kp
        have KP := Lib.hid kp
        clear kp hyr
        go_wp2_with fail
        refine KP.out.mono ?_; rintro e w3 ⟨rfl, v', J', F', _⟩
        have J'' := Lib.hid J'
        clear J' F'
        go_wp2_with fail
        go_roundw
        case rel => exact ⟨k + 1, v', by omega, by go_num, J''.out⟩
        case measure => simp [intOf]; omega
    · obtain rfl : k = m := by omega
      have hbel := J.bel
      have hbs := hbel.size
      obtain ⟨d, hd⟩ : ∃ d : Nat, (d : Int) = (a - f) % 65536 := ⟨((a - f) % 65536).toNat, by omega⟩
      have kf := findJ (s := a) (X := wr) J (Below.refl _ _)
      have hv : (d < k ∧ k - M ≤ d → findV (lastE (rowH f k) M) a = .tuple #[.agg #[.int .u16 a, .int .i64 0, .int .u32 0, .int .u16 0, .int .u32 d, .int .u32 0, .int .u16 0], .bool true]) ∧
          (¬ (d < k ∧ k - M ≤ d) → findV (lastE (rowH f k) M) a = .tuple #[.agg #[.int .u16 0, .int .i64 0, .int .u32 0, .int .u16 0, .int .u32 0, .int .u32 0, .int .u16 0], .bool false]) := by
        constructor
        · intro h
          unfold findV
          rw [find_row_yes f a k M d hm3 ha ha' hd h.1 h.2]
          simp only [rowN, Option.getD_some, Option.isSome_some, entC]
          rw [show (f + (d : Int)) % 65536 = a by omega]
        · intro h
          unfold findV
          rw [find_row_no f a k M d hm3 hd h]
          rfl
      have HV := Lib.hid hv
      have HD := Lib.hid hd
      have KF := Lib.hid kf
      clear kf hv J hd
      have i8 : (d : Int) ≤ 65535 := by have := HD.out; omega
      have hd4 : (d : Int) % 4294967296 = d := by omega
      have hdd : IntKind.u16.wrap (a - f) = (d : Int) := by have := HD.out; simp only [IntKind.wrap, IntKind.bits, IntKind.signed]; simp; omega
      have hd0 : (0 : Int) ≤ (d : Int) := by omega
      have hM := HM.out
      have hcase : (n < 0 ∧ M = 0) ∨ (n = 0 ∧ M = 0) ∨ (0 < n ∧ n < 64 ∧ n = M) ∨ (n = 64 ∧ M = 64) ∨ (64 < n ∧ M = 64) := by omega
      have HC := Lib.hid hcase
      clear hM hcase
      have hwW : RowKit.Below w.heap.size w wr := hWb.trans (hbel.mono hWs)
      have hwWs := hwW.size
      by_cases hcond : d < k ∧ k - M ≤ d
      · have hv := HV.out.1 hcond
        obtain ⟨hc1, hc2⟩ := hcond
        have i9 : (d : Int) < (k : Int) := by omega
        have KF2 := Lib.hid (by have h := KF.out; rw [hv] at h; exact h : Calls Try.prog 31 #[.pointer (some ⟨hb, 0, none⟩), .int .u16 a] wr (Gives (.tuple #[.agg #[.int .u16 a, .int .i64 0, .int .u32 0, .int .u16 0, .int .u32 d, .int .u32 0, .int .u16 0], .bool true]) wr))
        clear hv
        go_upto_region 12 with (refine KF2.out.mono ?_; rintro e w3 ⟨rfl, hb3⟩; have ha3 : After _ w3 := ⟨hb3⟩; obtain ⟨hc3, hf3⟩ := after hb3; have hz3 := hb3.size)
        go_cut [14] (fun s14 wx => s14 = .int .i64 (min k M : Nat) ∧ BlkIs wx w3.heap.size #[.int .u16 a, .int .i64 0, .int .u32 0, .int .u16 0, .int .u32 d, .int .u32 0, .int .u16 0] 54 ∧ RowKit.Below w3.heap.size w3 wx)
        case first =>
          rcases HC.out with ⟨hc, rfl⟩ | ⟨rfl, rfl⟩ | ⟨hc, hcc, rfl⟩ | ⟨rfl, rfl⟩ | ⟨hc, rfl⟩
          all_goals
            go_wp2_with fail
            all_goals go_meet
            all_goals refine ⟨?_, by infer_instance, (by repeat (first | with_reducible exact Below.refl _ _ | (with_reducible refine Below.alloc ?_ ?_ _; rotate_left; focus ((try simp) <;> omega)) | (with_reducible refine Below.setCell ?_ ?_ _; rotate_left; focus ((try simp) <;> omega)) | (with_reducible refine below_grow ?_ ?_; rotate_left; focus ((try simp) <;> omega)) | (with_reducible refine below_putB ?_ ?_; rotate_left; focus ((try simp) <;> omega)) | with_reducible refine Below.drew ?_ | with_reducible refine below_drewN ?_ | with_reducible assumption | (with_reducible refine below_step (by assumption) ?_ ?_; rotate_left; focus ((try simp) <;> omega))))⟩
            all_goals first | rfl | (congr 1; omega)
        case rest =>
          obtain ⟨rfl, hbk, hbw⟩ := hcut
          have iA : (k : Int) - ((min k M : Nat) : Int) ≤ (d : Int) := by omega
          obtain ⟨q, hq⟩ : ∃ q, q = min k M := ⟨_, rfl⟩
          rw [← hq] at iA ⊢
          have iB : (q : Int) ≤ 300 := by omega
          clear hq
          go_wp2_with fail
          refine ret_any ⟨_, by simp [results, Try.results9, go_sem, *]; rfl, ?_⟩ rfl
          exact gives_of rfl ((hwW.trans (hb3.mono hwWs)).trans (hbw.mono (by omega)))
      · have hv := HV.out.2 hcond
        have KF2 := Lib.hid (by have h := KF.out; rw [hv] at h; exact h : Calls Try.prog 31 #[.pointer (some ⟨hb, 0, none⟩), .int .u16 a] wr (Gives (.tuple #[.agg #[.int .u16 0, .int .i64 0, .int .u32 0, .int .u16 0, .int .u32 0, .int .u32 0, .int .u16 0], .bool false]) wr))
        clear hv
        have HCO := Lib.hid hcond
        clear hcond
        go_upto_region 12 with (refine KF2.out.mono ?_; rintro e w3 ⟨rfl, hb3⟩; have ha3 : After _ w3 := ⟨hb3⟩; obtain ⟨hc3, hf3⟩ := after hb3; have hz3 := hb3.size)
        go_cut [14] (fun s14 wx => s14 = .int .i64 (min k M : Nat) ∧ RowKit.Below w3.heap.size w3 wx)
        case first =>
          rcases HC.out with ⟨hc, rfl⟩ | ⟨rfl, rfl⟩ | ⟨hc, hcc, rfl⟩ | ⟨rfl, rfl⟩ | ⟨hc, rfl⟩
          all_goals
            go_wp2_with fail
            all_goals go_meet
            all_goals refine ⟨?_, (by repeat (first | with_reducible exact Below.refl _ _ | (with_reducible refine Below.alloc ?_ ?_ _; rotate_left; focus ((try simp) <;> omega)) | (with_reducible refine Below.setCell ?_ ?_ _; rotate_left; focus ((try simp) <;> omega)) | (with_reducible refine below_grow ?_ ?_; rotate_left; focus ((try simp) <;> omega)) | (with_reducible refine below_putB ?_ ?_; rotate_left; focus ((try simp) <;> omega)) | with_reducible refine Below.drew ?_ | with_reducible refine below_drewN ?_ | with_reducible assumption | (with_reducible refine below_step (by assumption) ?_ ?_; rotate_left; focus ((try simp) <;> omega))))⟩
            all_goals first | rfl | (congr 1; omega)
        case rest =>
          obtain ⟨rfl, hbw⟩ := hcut
          have hco := HCO.out
          have iA : (k : Int) ≤ (d : Int) ∨ ((d : Int) < (k : Int) ∧ (d : Int) < (k : Int) - ((min k M : Nat) : Int)) := by omega
          obtain ⟨q, hq⟩ : ∃ q, q = min k M := ⟨_, rfl⟩
          rw [← hq] at iA ⊢
          have iB : (q : Int) ≤ 300 := by omega
          clear hq hco
          rcases iA with iA | ⟨iA, iC⟩
          · go_wp2_with fail
            refine ret_any ⟨_, by simp [results, Try.results9, go_sem, *]; rfl, ?_⟩ rfl
            exact gives_of rfl ((hwW.trans (hb3.mono hwWs)).trans (hbw.mono (by omega)))
          · have iD : decide ((k : Int) - (q : Int) ≤ (d : Int)) = false := by rw [decide_eq_false_iff_not]; omega
            clear iC
            go_wp2_with fail
            refine ret_any ⟨_, by simp [results, Try.results9, go_sem, *]; rfl, ?_⟩ rfl
            exact gives_of rfl ((hwW.trans (hb3.mono hwWs)).trans (hbw.mono (by omega)))
end Go.Proofs.Ytjlclpdjblicjaa
