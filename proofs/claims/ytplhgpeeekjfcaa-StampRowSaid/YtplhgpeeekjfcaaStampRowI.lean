/-
  What holds in the rounds of the law StampRow, and what Media tells there. No condition.
-/
import Derived.Test.YtplhgpeeekjfcaaStampShown
import Derived.Test.YtplhgpeeekjfcaaGateKeys
namespace Go.Proofs.Ytplhgpeeekjfcaa
open Go.RowKit Go.Sort Go.BigFrame
set_option linter.unusedVariables false
/-- What holds of a track behind n packets that went: li, lo the last times. -/
structure RowI (gc : Int) (cl : Bool) (ci co : Int) (ka : Bool) (ko kl : Int) (fr oc : Int) (n : Nat) (li lo : Int) : Prop where
  top : n ≤ 150
  none : n = 0 → ka = false ∧ gc = -1
  some : 0 < n → ka = true ∧ cl = true ∧ kl = lo ∧ lo = (li + ko) % 4294967296
  b0 : 0 ≤ ci ∧ ci ≤ 65535
  b1 : 0 ≤ ko ∧ ko ≤ 4294967295
  b2 : 0 ≤ kl ∧ kl ≤ 4294967295
  b3 : 0 ≤ fr ∧ fr ≤ 65535
  b4 : 0 ≤ oc ∧ oc ≤ 4294967295
  b5 : 0 ≤ li ∧ li ≤ 4294967295
  b6 : 0 ≤ lo ∧ lo ≤ 4294967295
theorem RowI.start : RowI (-1) false 0 0 false 0 0 65535 0 0 0 0 :=
  ⟨by omega, fun _ => ⟨rfl, rfl⟩, fun h => by omega, by omega, by omega, by omega, by omega, by omega, by omega, by omega⟩
/-- A pause, a mute. -/
theorem RowI.shut {gc ci co ko kl fr oc li lo : Int} {cl ka on : Bool} {n : Nat} (h : RowI gc cl ci co ka ko kl fr oc n li lo) : RowI (shutC on gc) cl ci co ka ko kl fr oc n li lo :=
  ⟨h.top, fun e => ⟨(h.none e).1, by unfold shutC; rw [(h.none e).2]; split <;> rfl⟩, h.some, h.b0, h.b1, h.b2, h.b3, h.b4, h.b5, h.b6⟩
/-- What becomes of a packet in a round: nothing goes; it goes; it goes behind a switch. -/
inductive RowR (ga gc : Int) (gp gm cl : Bool) (ci co : Int) (ka : Bool) (ko kl out fr oc : Int) (n : Nat) (li lo sq tm : Int) (pL : Nat) (ke st : Bool) : (Int → Int → Bool → Bool → Bool → Int → Int → Int → Bool → Int → Int → Int → Int → Int → Int → Int → Int → Int → Int → Int → Prop)
  | stays (v : Int) (h1 : v ≠ 1) (h2 : v ≠ 2) : RowR ga gc gp gm cl ci co ka ko kl out fr oc n li lo sq tm pL ke st ga gc gp gm cl ci co n ka ko kl out fr n oc 0 0 0 0 v
  | goes (hq : (gp || gm) = false) (ha : ahead sq ci = true) (ht : (lo + tm - li) % 4294967296 = (tm + ko) % 4294967296) (hI : RowI gc true sq ((n - sq) % 65536) true ko ((tm + ko) % 4294967296) (frameV st fr) ((oc + pL) % 4294967296) (n + 1) tm ((tm + ko) % 4294967296)) :
      RowR ga gc gp gm cl ci co ka ko kl out fr oc n li lo sq tm pL ke st ga gc gp gm true sq ((n - sq) % 65536) (n + 1 : Nat) true ko ((tm + ko) % 4294967296) out (frameV st fr) (n + 1 : Nat) ((oc + pL) % 4294967296) n ((tm + ko) % 4294967296) out (frameV st fr) 1
  | turns (X : Int) (hq : (gp || gm) = false) (hk : ke = true) (hs : st = true) (ht : (tm + X) % 4294967296 = if n = 0 then 0 else (lo + 3000) % 4294967296) (hI : RowI ga true sq ((n - sq) % 65536) true X ((tm + X) % 4294967296) (frameV st fr) ((oc + pL) % 4294967296) (n + 1) tm ((tm + X) % 4294967296)) :
      RowR ga gc gp gm cl ci co ka ko kl out fr oc n li lo sq tm pL ke st ga ga gp gm true sq ((n - sq) % 65536) (n + 1 : Nat) true X ((tm + X) % 4294967296) out (frameV st fr) (n + 1 : Nat) ((oc + pL) % 4294967296) n ((tm + X) % 4294967296) out (frameV st fr) 2
/-- The four ways hang on no payload's place. -/
theorem media_all (ga gc : Int) (gp gm cl : Bool) (ci co cn : Int) (ka : Bool) (ko kl out fr se oc : Int) (mk : Bool) (ty sq tm ss : Int) (cA : Option Addr) (cL cC : Nat) (hx : Bool) (pf : Int) (eA : Option Addr) (eL eC : Nat) (pL : Nat) (pad : Int) (la : Int) (ke st : Bool) (df : Int) (hsq : 0 ≤ sq) (hsq' : sq ≤ 65535) (htm : 0 ≤ tm) (htm' : tm ≤ 4294967295) (hci : 0 ≤ ci) (hci' : ci ≤ 65535) (hcn : 0 ≤ cn) (hcn' : cn ≤ 65535) (hko : 0 ≤ ko) (hko' : ko ≤ 4294967295) (hkl : 0 ≤ kl) (hkl' : kl ≤ 4294967295) (hfr : 0 ≤ fr) (hfr' : fr ≤ 65535) (hse : 0 ≤ se) (hse' : se ≤ 4294967295) (hoc : 0 ≤ oc) (hoc' : oc ≤ 4294967295) (hpl : pL ≤ 9223372036854775807) :
    (∃ v, (v = 3 ∨ v = 4) ∧ takeV ga gc gp gm la (ke && st) = v ∧ ∀ pA pC, Both (track ga gc gp gm cl ci co cn ka ko kl out fr se oc) (packetV mk ty sq tm ss cA cL cC hx pf eA eL eC pA pL pC pad) (descV la ke st df) (.tuple #[track ga gc gp gm cl ci co cn ka ko kl out fr se oc, patchV 0 0 0 0, .int .i64 v])) ∨
    (takeV ga gc gp gm la (ke && st) = 1 ∧ cl = true ∧ ahead sq ci = false ∧ ∀ pA pC, Both (track ga gc gp gm cl ci co cn ka ko kl out fr se oc) (packetV mk ty sq tm ss cA cL cC hx pf eA eL eC pA pL pC pad) (descV la ke st df) (.tuple #[track ga gc gp gm cl ci co cn ka ko kl out fr se oc, patchV 0 0 0 0, .int .i64 5])) ∨
    (takeV ga gc gp gm la (ke && st) = 1 ∧ (cl = true → ahead sq ci = true) ∧ ∀ pA pC, Both (track ga gc gp gm cl ci co cn ka ko kl out fr se oc) (packetV mk ty sq tm ss cA cL cC hx pf eA eL eC pA pL pC pad) (descV la ke st df) (.tuple #[track ga gc gp gm true sq ((cn - sq) % 65536) ((cn + 1) % 65536) true ko ((tm + ko) % 4294967296) out (frameV st fr) ((se + 1) % 4294967296) ((oc + pL) % 4294967296), patchV cn ((tm + ko) % 4294967296) out (frameV st fr), .int .i64 1])) ∨
    (takeV ga gc gp gm la (ke && st) = 2 ∧ ke = true ∧ st = true ∧ ∀ pA pC, Both (track ga gc gp gm cl ci co cn ka ko kl out fr se oc) (packetV mk ty sq tm ss cA cL cC hx pf eA eL eC pA pL pC pad) (descV la ke st df) (.tuple #[track ga ga gp gm true sq ((cn - sq) % 65536) ((cn + 1) % 65536) true (startV ka kl tm) ((tm + startV ka kl tm) % 4294967296) out ((fr + 1) % 65536) ((se + 1) % 4294967296) ((oc + pL) % 4294967296), patchV cn ((tm + startV ka kl tm) % 4294967296) out ((fr + 1) % 65536), .int .i64 2])) := by
  have c := fun (pA : Option Addr) (pC : Nat) => media_cases ga gc gp gm cl ci co cn ka ko kl out fr se oc mk ty sq tm ss cA cL cC hx pf eA eL eC pA pL pC pad la ke st df hsq hsq' htm htm' hci hci' hcn hcn' hko hko' hkl hkl' hfr hfr' hse hse' hoc hoc' hpl
  rcases c none 0 with ⟨v, hv, ht, -⟩ | ⟨ht, h1, h2, -⟩ | ⟨ht, h1, -⟩ | ⟨ht, h1, h2, -⟩
  · refine .inl ⟨v, hv, ht, fun pA pC => ?_⟩
    rcases c pA pC with ⟨v', hv', ht', hB⟩ | ⟨ht', _⟩ | ⟨ht', _⟩ | ⟨ht', _⟩
    · rw [ht] at ht'; subst ht'; exact hB
    all_goals omega
  · refine .inr (.inl ⟨ht, h1, h2, fun pA pC => ?_⟩)
    rcases c pA pC with ⟨v', hv', ht', hB⟩ | ⟨ht', _, _, hB⟩ | ⟨ht', h3, _⟩ | ⟨ht', _⟩
    · omega
    · exact hB
    · have := h3 h1; rw [h2] at this; cases this
    · omega
  · refine .inr (.inr (.inl ⟨ht, h1, fun pA pC => ?_⟩))
    rcases c pA pC with ⟨v', hv', ht', hB⟩ | ⟨ht', h3, h4, hB⟩ | ⟨ht', h3, hB⟩ | ⟨ht', _⟩
    · omega
    · have := h1 h3; rw [h4] at this; cases this
    · exact hB
    · omega
  · refine .inr (.inr (.inr ⟨ht, h1, h2, fun pA pC => ?_⟩))
    rcases c pA pC with ⟨v', hv', ht', hB⟩ | ⟨ht', _⟩ | ⟨ht', _⟩ | ⟨ht', _, _, hB⟩
    · omega
    · omega
    · omega
    · exact hB
theorem media_row {ga gc : Int} {gp gm cl : Bool} {ci co : Int} {ka : Bool} {ko kl out fr oc : Int} {n : Nat} {li lo : Int} (h : RowI gc cl ci co ka ko kl fr oc n li lo) (hn : n < 150) (mk : Bool) (ty sq tm ss : Int) (cA : Option Addr) (cL cC : Nat) (hx : Bool) (pf : Int) (eA : Option Addr) (eL eC : Nat) (pL : Nat) (pad la : Int) (ke st : Bool) (df : Int) (hsq : 0 ≤ sq) (hsq' : sq ≤ 65535) (htm : 0 ≤ tm) (htm' : tm ≤ 4294967295) (hpl : pL ≤ 300) (hla : 0 ≤ la) :
    ∃ u0 u1 u2 u3 u4 u5 u6 u7 u8 u9 u10 u11 u12 u13 u14 p0 p1 p2 p3 v, RowR ga gc gp gm cl ci co ka ko kl out fr oc n li lo sq tm pL ke st u0 u1 u2 u3 u4 u5 u6 u7 u8 u9 u10 u11 u12 u13 u14 p0 p1 p2 p3 v ∧
      ∀ pA pC w, Calls Try.prog 44 #[track ga gc gp gm cl ci co n ka ko kl out fr n oc, packetV mk ty sq tm ss cA cL cC hx pf eA eL eC pA pL pC pad, descV la ke st df] w (Gives (.tuple #[track u0 u1 u2 u3 u4 u5 u6 u7 u8 u9 u10 u11 u12 u13 u14, patchV p0 p1 p2 p3, .int .i64 v]) w) := by
  have t := h.top
  obtain ⟨b00, b01⟩ := h.b0
  obtain ⟨b10, b11⟩ := h.b1
  obtain ⟨b20, b21⟩ := h.b2
  obtain ⟨b30, b31⟩ := h.b3
  obtain ⟨b40, b41⟩ := h.b4
  obtain ⟨b50, b51⟩ := h.b5
  obtain ⟨b60, b61⟩ := h.b6
  have hn1 : ((n : Int) + 1) % 65536 = ((n + 1 : Nat) : Int) := by omega
  have hn2 : ((n : Int) + 1) % 4294967296 = ((n + 1 : Nat) : Int) := by omega
  have hfv := frameV_in st fr b30 b31
  rcases media_all ga gc gp gm cl ci co n ka ko kl out fr n oc mk ty sq tm ss cA cL cC hx pf eA eL eC pL pad la ke st df hsq hsq' htm htm' b00 b01 (by omega) (by omega) b10 b11 b20 b21 b30 b31 (by omega) (by omega) b40 b41 (by omega) with ⟨v, hv, -, hB⟩ | ⟨-, -, -, hB⟩ | ⟨ht, hA, hB⟩ | ⟨ht, hke, hst, hB⟩
  · exact ⟨_, _, _, _, _, _, _, _, _, _, _, _, _, _, _, _, _, _, _, _, .stays v (by omega) (by omega), fun pA pC => (hB pA pC).1⟩
  · exact ⟨_, _, _, _, _, _, _, _, _, _, _, _, _, _, _, _, _, _, _, _, .stays 5 (by omega) (by omega), fun pA pC => (hB pA pC).1⟩
  · have hq : (gp || gm) = false ∧ la = gc := by
      unfold takeV at ht
      split at ht
      · omega
      · rename_i h1
        refine ⟨by simpa using h1, ?_⟩
        split at ht
        · omega
        · split at ht
          · assumption
          · omega
    have hn0 : 0 < n := by
      rcases Nat.eq_zero_or_pos n with e | e
      · have := (h.none e).2; omega
      · exact e
    obtain ⟨s1, s2, s3, s4⟩ := h.some hn0
    rw [hn1, hn2] at hB
    refine ⟨_, _, _, _, _, _, _, _, _, _, _, _, _, _, _, _, _, _, _, _, .goes hq.1 (hA s2) (by omega) ?_, fun pA pC => (hB pA pC).1⟩
    exact ⟨by omega, fun e => by omega, fun _ => ⟨rfl, rfl, rfl, rfl⟩, ⟨hsq, hsq'⟩, ⟨b10, b11⟩, by omega, hfv, by omega, ⟨htm, htm'⟩, by omega⟩
  · have hq : (gp || gm) = false := by
      unfold takeV at ht
      split at ht
      · omega
      · rename_i h1; simpa using h1
    obtain ⟨X, hX⟩ : ∃ X, X = startV ka kl tm := ⟨_, rfl⟩
    have hXb := startV_in ka kl tm
    rw [← hX] at hXb hB
    rw [hn1, hn2] at hB
    have hfe : (fr + 1) % 65536 = frameV st fr := by unfold frameV; rw [hst]; rfl
    rw [hfe] at hB
    refine ⟨_, _, _, _, _, _, _, _, _, _, _, _, _, _, _, _, _, _, _, _, .turns X hq hke hst ?_ ?_, fun pA pC => (hB pA pC).1⟩
    · rw [hX]
      unfold startV
      rcases Nat.eq_zero_or_pos n with e | e
      · rw [(h.none e).1, if_pos e]; simp; omega
      · obtain ⟨s1, s2, s3, s4⟩ := h.some e
        have e1 : (if n = 0 then (0 : Int) else (lo + 3000) % 4294967296) = (lo + 3000) % 4294967296 := if_neg (by omega)
        rw [e1, s1, s3]; simp; omega
    · exact ⟨by omega, fun e => by omega, fun _ => ⟨rfl, rfl, rfl, rfl⟩, ⟨hsq, hsq'⟩, hXb, by omega, hfv, by omega, ⟨htm, htm'⟩, by omega⟩
end Go.Proofs.Ytplhgpeeekjfcaa
