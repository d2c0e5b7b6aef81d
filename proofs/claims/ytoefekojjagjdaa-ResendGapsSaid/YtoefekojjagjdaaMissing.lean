/-
  Missing, by its contract: Pack of the numbers that lie between the entries. No condition but that the entries are not too many.
-/
import Derived.Test.YtoefekojjagjdaaEnts
import Derived.Test.YtoefekojjagjdaaNackJoin
namespace Go.Proofs.Ytoefekojjagjdaa
open Go.RowKit Go.Sort Go.BigFrame
set_option linter.unusedVariables false
attribute [local go_sem ↓] Go.wp_at_zero Go.wp_at_succ
/-- The first j numbers behind a. -/
def gapN (a : Int) (j : Nat) : List Int := (List.range j).map fun t : Nat => (a + t + 1) % 65536
theorem gapN_succ (a : Int) (j : Nat) : gapN a (j + 1) = gapN a j ++ [(a + j + 1) % 65536] := by simp [gapN, List.range_succ]
theorem gapN_len (a : Int) (j : Nat) : (gapN a j).length = j := by simp [gapN]
/-- How far b lies behind a. -/
def gapD (a b : Int) : Int := (b - a) % 65536
/-- The numbers between a and b, when they lie near. -/
def gap (a b : Int) : List Int := if 2 ≤ gapD a b ∧ gapD a b ≤ 17 then gapN a ((gapD a b).toNat - 1) else []
theorem gap_near {a b : Int} (h1 : 2 ≤ gapD a b) (h2 : gapD a b ≤ 17) : gap a b = gapN a ((gapD a b).toNat - 1) := by unfold gap; rw [if_pos ⟨h1, h2⟩]
theorem gap_far {a b : Int} (h : ¬ (2 ≤ gapD a b ∧ gapD a b ≤ 17)) : gap a b = [] := by unfold gap; rw [if_neg h]
theorem gap_len (a b : Int) : (gap a b).length ≤ 16 := by
  unfold gap
  split
  · rw [gapN_len]; omega
  · simp
/-- The numbers that lie between the first k entries. -/
def missTo (l : List Ent) : Nat → List Int
  | 0 => []
  | k + 1 => missTo l k ++ (if k = 0 then [] else gap (l.getD (k - 1) e0).1 (l.getD k e0).1)
def miss (l : List Ent) : List Int := missTo l l.length
theorem missTo_one (l : List Ent) : missTo l 1 = [] := by simp [missTo]
theorem missTo_succ (l : List Ent) (k : Nat) (h : 1 ≤ k) : missTo l (k + 1) = missTo l k ++ gap (l.getD (k - 1) e0).1 (l.getD k e0).1 := by
  rw [missTo, if_neg (by omega)]
theorem missTo_len (l : List Ent) (k : Nat) : (missTo l k).length ≤ 16 * k := by
  induction k with
  | zero => simp [missTo]
  | succ k ih =>
    rw [missTo, List.length_append]
    split
    · simp; omega
    · have := gap_len (l.getD (k - 1) e0).1 (l.getD k e0).1
      omega
theorem gapN_fits (a : Int) (j : Nat) : fits16 (gapN a j) := by
  intro x hx
  simp only [gapN, List.mem_map] at hx
  obtain ⟨t, _, rfl⟩ := hx
  constructor <;> omega
theorem missTo_fits (l : List Ent) (k : Nat) : fits16 (missTo l k) := by
  induction k with
  | zero => intro x hx; simp [missTo] at hx
  | succ k ih =>
    intro x hx
    rw [missTo] at hx
    rcases List.mem_append.1 hx with h | h
    · exact ih x h
    · split at h
      · simp at h
      · unfold gap at h
        split at h
        · exact gapN_fits _ _ x h
        · simp at h
set_option maxRecDepth 100000 in
set_option maxHeartbeats 8000000 in
theorem missingR {v : Value} {n : Nat} {l : List Ent} {w : World} (h : Has w 7 v n (ents l)) (hl : l.length = n) (hf : fitsE l) (hn : n ≤ 1200000) :
    Calls Try.prog 37 #[v] w fun e w' => ∃ v', e = .returned v' ∧ Line w' w.heap.size 2 v' (pack (miss l)).length (prs (pack (miss l))) ∧ Below w.heap.size w w' := by
  have kp := fun (w' : World) (v : Value) (h : Has w' 1 v (miss l).length (nums (miss l))) => packR h rfl (missTo_fits l l.length) (by have := missTo_len l l.length; unfold miss; omega)
  have KP := Lib.hid kp
  have HH := Lib.hid h
  have HL := Lib.hid hl
  have HF := Lib.hid hf
  obtain ⟨ao, cap, rfl, hcap, hcap'⟩ := h.shape
  unfold maxLen at hcap'
  clear kp h hl hf
  obtain ⟨i0, hi, hz0, hz1, hz2⟩ := info_parts info22
  have HI := And.intro (Lib.hid hi) (And.intro (Lib.hid hz0) (And.intro (Lib.hid hz1) (Lib.hid hz2)))
  clear hi hz0 hz1 hz2
  go_enter Try.func37, Try.ntmps37
  go_wp2
  go_loopw [3, 4] (fun s3 s4 wr => ∃ k : Nat, 1 ≤ k ∧ (k ≤ n ∨ k = 1) ∧ s4 = .int .i64 k ∧ Line wr w.heap.size 1 s3 (missTo l k).length (nums (missTo l k)) ∧ Below w.heap.size w wr) (fun _ i _ => n - (intOf i).toNat)
  case atStart => exact ⟨1, by omega, .inr rfl, rfl, by rw [missTo_one]; exact Line.nil w w.heap.size 1, Below.refl _ _⟩
  case round =>
    obtain ⟨k, hk1, hk, rfl, hown, hbel⟩ := hrel
    have hbs := hbel.size
    by_cases hlt : k < n
    · obtain ⟨g, off, c, ev, hg, _, hc⟩ := ent_cells HH.out HL.out k hlt
      simp only [Value.slice.injEq, true_and] at ev
      obtain ⟨rfl, rfl⟩ := ev
      obtain ⟨g', off', c', ev', _, _, hc'⟩ := ent_cells HH.out HL.out (k - 1) (by omega)
      simp only [Value.slice.injEq, true_and, Option.some.injEq, Addr.mk.injEq, and_true] at ev'
      obtain ⟨⟨rfl, rfl⟩, rfl⟩ := ev'
      have d0 := (hbel.cell (p := ⟨g, off + k * 7 + 0, none⟩) (by simpa using hg)).trans (hc 0 (by omega))
      have d1 := (hbel.cell (p := ⟨g, off + (k - 1) * 7 + 0, none⟩) (by simpa using hg)).trans (hc' 0 (by omega))
      simp only [entC, List.getElem?_cons_zero, Nat.add_zero] at d0 d1
      have hst := missTo_succ l k hk1
      have hb := fitsE_getD HF.out k
      have ha := fitsE_getD HF.out (k - 1)
      have hml := missTo_len l k
      obtain ⟨j, hj0⟩ : ∃ j : Nat, j = k - 1 := ⟨_, rfl⟩
      rw [← hj0] at d1 hst ha
      have i7 : IntKind.i64.wrap ((k : Int) - 1) = (j : Int) := by
        simp only [IntKind.wrap, IntKind.bits, IntKind.signed]
        simp
        split <;> omega
      have i9 : (0 : Int) ≤ (j : Int) := by omega
      have i10 : (j : Int) < (n : Int) := by omega
      have HJ := Lib.hid hj0
      clear hj0 hc hc'
      generalize (l.getD k e0).1 = b at d0 hst hb
      generalize (l.getD j e0).1 = a at d1 hst ha
      obtain ⟨O, hO⟩ : ∃ O, O = missTo l k := ⟨_, rfl⟩
      rw [← hO] at hown hst hml
      have HO := Lib.hid hown
      have og : Old g wr := ⟨by omega⟩
      have i3 : (k : Int) < (n : Int) := by omega
      have i4 : (0 : Int) ≤ (k : Int) := by omega
      clear hO hown
      obtain ⟨wo, hwo⟩ : ∃ wo : World, wo = wr := ⟨_, rfl⟩
      subst hwo
      go_wp2_with fail
      refine wp_region_quiet_below (by kernel_rfl) (by kernel_rfl) ?_
      repeat (first | go_big_quiet_step (((fail))) | quiet_step (((fail))))
      refine wpQuiet_nil ?_
      intro _ hw'
      obtain ⟨⟨dq, osq⟩, hw''⟩ := hw'
      subst hw''
      obtain ⟨D, hD⟩ : ∃ D : Nat, (D : Int) = (b - a) % 65536 := ⟨((b - a) % 65536).toNat, by omega⟩
      by_cases hd : 2 ≤ (b - a) % 65536 ∧ (b - a) % 65536 ≤ 17
      · have hgap := gap_near (a := a) (b := b) hd.1 hd.2
        rw [show (gapD a b).toNat - 1 = D - 1 by unfold gapD; omega] at hgap
        rw [hgap] at hst
        have HST := Lib.hid hst
        have HD := Lib.hid hD
        obtain ⟨hd1, hd2⟩ := hd
        have hD2 : 2 ≤ D := by omega
        have hD17 : D ≤ 17 := by omega
        clear hgap hst hD
        go_wp2_with fail
        go_loopw [3, 8] (fun s3 s8 wi => ∃ q : Nat, q + 1 ≤ D ∧ s8 = .int .u16 ((a + 1 + q) % 65536) ∧ Line wi w.heap.size 1 s3 (O ++ gapN a q).length (nums (O ++ gapN a q)) ∧ Below w.heap.size w wi) (fun _ s _ => ((b - intOf s) % 65536).toNat)
        case atStart => exact ⟨0, by omega, by simp, by simpa [gapN] using HO.out.keep (by repeat (first | with_reducible exact Below.refl _ _ | (with_reducible refine Below.alloc ?_ ?_ _; rotate_left; focus ((try simp) <;> omega)) | (with_reducible refine Below.setCell ?_ ?_ _; rotate_left; focus ((try simp) <;> omega)) | (with_reducible refine below_grow ?_ ?_; rotate_left; focus ((try simp) <;> omega)) | (with_reducible refine below_putB ?_ ?_; rotate_left; focus ((try simp) <;> omega)) | with_reducible refine Below.drew ?_ | with_reducible refine below_drewN ?_ | with_reducible assumption | (with_reducible refine below_step (by assumption) ?_ ?_; rotate_left; focus ((try simp) <;> omega)))), (by repeat (first | with_reducible exact Below.refl _ _ | (with_reducible refine Below.alloc ?_ ?_ _; rotate_left; focus ((try simp) <;> omega)) | (with_reducible refine Below.setCell ?_ ?_ _; rotate_left; focus ((try simp) <;> omega)) | (with_reducible refine below_grow ?_ ?_; rotate_left; focus ((try simp) <;> omega)) | (with_reducible refine below_putB ?_ ?_; rotate_left; focus ((try simp) <;> omega)) | with_reducible refine Below.drew ?_ | with_reducible refine below_drewN ?_ | with_reducible assumption | (with_reducible refine below_step (by assumption) ?_ ?_; rotate_left; focus ((try simp) <;> omega))))⟩
        case round =>
          obtain ⟨q, hq, rfl, hown, hB⟩ := hrel
          have hBs := hB.size
          by_cases hlq : q + 1 < D
          · have hne : ¬ ((a + 1 + q) % 65536 = b) := by have := HD.out; omega
            have hlen : (O ++ gapN a q).length = O.length + q := by rw [List.length_append, gapN_len]
            rw [hlen] at hown
            have hnx : ((a + 1 + q) % 65536 + 1) % 65536 = (a + 1 + ((q + 1 : Nat) : Int)) % 65536 := by omega
            have HNX := Lib.hid hnx
            have HQ := Lib.hid hown
            have hms : ((b - (a + 1 + ((q + 1 : Nat) : Int)) % 65536) % 65536).toNat < ((b - (a + 1 + q) % 65536) % 65536).toNat := by have := HD.out; omega
            have HMS := Lib.hid hms
            clear hnx hown hlen hms
            have hsv : (a + (q : Int) + 1) % 65536 = (a + 1 + q) % 65536 := by congr 1; omega
            have HSV := Lib.hid hsv
            clear hsv
            obtain ⟨s, hs⟩ : ∃ s, s = (a + 1 + (q : Int)) % 65536 := ⟨_, rfl⟩
            rw [← hs] at hne ⊢
            have HS := Lib.hid hs
            clear hs
            go_wp2_with (first | (at_builtin; refine wpList_append_line _ rfl _ _ 36 rfl w.heap.size 22 i0 _ 1 2 Try.underlying36 HI.1.out HI.2.1.out HI.2.2.1.out HI.2.2.2.out rfl (by decide) _ _ (O.length + q) 1 (nums (O ++ gapN a q)) [.int .u16 s] rfl rfl (HQ.out.keep (by repeat (first | with_reducible exact Below.refl _ _ | (with_reducible refine Below.alloc ?_ ?_ _; rotate_left; focus ((try simp) <;> omega)) | (with_reducible refine Below.setCell ?_ ?_ _; rotate_left; focus ((try simp) <;> omega)) | (with_reducible refine below_grow ?_ ?_; rotate_left; focus ((try simp) <;> omega)) | (with_reducible refine below_putB ?_ ?_; rotate_left; focus ((try simp) <;> omega)) | with_reducible refine Below.drew ?_ | with_reducible refine below_drewN ?_ | with_reducible assumption | (with_reducible refine below_step (by assumption) ?_ ?_; rotate_left; focus ((try simp) <;> omega))))) (Src.one rfl (by simp [Value.oneCell']) (one_at (by simp [go_sem]))) (by unfold maxLen; omega) (by omega) (by first | omega | (simp; omega)) _ rfl ?_; intro v5 w5 hown5 hgrow5 hat5))
            have hB5 : RowKit.Below w.heap.size w w5 := RowKit.Below.grown (w := _) (by repeat (first | with_reducible exact Below.refl _ _ | (with_reducible refine Below.alloc ?_ ?_ _; rotate_left; focus ((try simp) <;> omega)) | (with_reducible refine Below.setCell ?_ ?_ _; rotate_left; focus ((try simp) <;> omega)) | (with_reducible refine below_grow ?_ ?_; rotate_left; focus ((try simp) <;> omega)) | (with_reducible refine below_putB ?_ ?_; rotate_left; focus ((try simp) <;> omega)) | with_reducible refine Below.drew ?_ | with_reducible refine below_drewN ?_ | with_reducible assumption | (with_reducible refine below_step (by assumption) ?_ ?_; rotate_left; focus ((try simp) <;> omega)))) hgrow5 (by simp; omega) (fun r hr => (HQ.out.lt hr).1)
            have HO5 := Lib.hid hown5
            clear hown5 hgrow5 hat5
            go_roundw
            case rel =>
              refine ⟨q + 1, by omega, by rw [HS.out, HNX.out], ?_, hB5⟩
              rw [gapN_succ, HSV.out, ← HS.out, ← List.append_assoc, nums_join, List.length_append, List.length_append, gapN_len]
              exact HO5.out
            case measure => rw [HS.out, HNX.out]; exact HMS.out
          · obtain rfl : D = q + 1 := by omega
            have hbq : (a + 1 + q) % 65536 = b := by have := HD.out; omega
            rw [hbq]
            have HQ := Lib.hid hown
            clear hbq hown
            go_wp2_with fail
            go_roundw
            case rel =>
              refine ⟨k + 1, by omega, by omega, by go_num, ?_, hB⟩
              rw [HST.out, Nat.add_sub_cancel]
              exact HQ.out
            case measure => simp [intOf]; omega
      · have hgap := gap_far (a := a) (b := b) hd
        rw [hgap, List.append_nil] at hst
        have HST := Lib.hid hst
        have hd' : (b - a) % 65536 < 2 ∨ (2 ≤ (b - a) % 65536 ∧ 17 < (b - a) % 65536) := by omega
        clear hgap hst hd hD
        rcases hd' with hd | ⟨hd, hd2⟩
        all_goals
          go_wp2_with fail
          go_roundw
          case rel =>
            refine ⟨k + 1, by omega, by omega, by go_num, ?_, (by repeat (first | with_reducible exact Below.refl _ _ | (with_reducible refine Below.alloc ?_ ?_ _; rotate_left; focus ((try simp) <;> omega)) | (with_reducible refine Below.setCell ?_ ?_ _; rotate_left; focus ((try simp) <;> omega)) | (with_reducible refine below_grow ?_ ?_; rotate_left; focus ((try simp) <;> omega)) | (with_reducible refine below_putB ?_ ?_; rotate_left; focus ((try simp) <;> omega)) | with_reducible refine Below.drew ?_ | with_reducible refine below_drewN ?_ | with_reducible assumption | (with_reducible refine below_step (by assumption) ?_ ?_; rotate_left; focus ((try simp) <;> omega))))⟩
            rw [HST.out]
            exact HO.out.keep (by repeat (first | with_reducible exact Below.refl _ _ | (with_reducible refine Below.alloc ?_ ?_ _; rotate_left; focus ((try simp) <;> omega)) | (with_reducible refine Below.setCell ?_ ?_ _; rotate_left; focus ((try simp) <;> omega)) | (with_reducible refine below_grow ?_ ?_; rotate_left; focus ((try simp) <;> omega)) | (with_reducible refine below_putB ?_ ?_; rotate_left; focus ((try simp) <;> omega)) | with_reducible refine Below.drew ?_ | with_reducible refine below_drewN ?_ | with_reducible assumption | (with_reducible refine below_step (by assumption) ?_ ?_; rotate_left; focus ((try simp) <;> omega))))
          case measure => simp [intOf]; omega
    · have hkk : missTo l k = miss l := by
        unfold miss
        rw [HL.out]
        rcases hk with h | rfl
        · rw [show k = n by omega]
        · rcases (show n = 0 ∨ n = 1 by omega) with rfl | rfl
          · rw [missTo_one]; rfl
          · rfl
      rw [hkk] at hown
      have HO := Lib.hid hown
      obtain ⟨a2, c2, rfl, _, _⟩ := hown.shape
      clear hown hkk
      have i3 : (n : Int) ≤ (k : Int) := by omega
      go_wp2_with fail
      refine (KP.out _ _ (Has.of_line HO.out)).mono ?_; rintro e w2 ⟨v2, rfl, hL2, hb2⟩
      go_wp2_with fail
      refine ret_any ⟨_, by simp [results, Try.results37, go_sem, *]; rfl, ?_⟩ rfl
      exact ⟨_, rfl, hL2.weak hbs, hbel.trans (hb2.mono hbs)⟩
end Go.Proofs.Ytoefekojjagjdaa
