/-
  Media of stamp and of the reference: the same, in four ways. No condition but that the numbers fit their kinds.
-/
import Derived.Test.YtplhgpeeekjfcaaStampShut
import Derived.Test.YtplhgpeeekjfcaaStampRefShut
import Derived.Test.YtplhgpeeekjfcaaStampLate
import Derived.Test.YtplhgpeeekjfcaaStampRefLate
import Derived.Test.YtplhgpeeekjfcaaStampSent
import Derived.Test.YtplhgpeeekjfcaaStampRefSent
import Derived.Test.YtplhgpeeekjfcaaStampSwitch
import Derived.Test.YtplhgpeeekjfcaaStampRefSwitch
namespace Go.Proofs.Ytplhgpeeekjfcaa
open Go.RowKit Go.Sort Go.BigFrame
set_option linter.unusedVariables false
def frameV (st : Bool) (fr : Int) : Int := if st then (fr + 1) % 65536 else fr
theorem frameV_in (st : Bool) (fr : Int) (h : 0 ≤ fr) (h' : fr ≤ 65535) : 0 ≤ frameV st fr ∧ frameV st fr ≤ 65535 := by unfold frameV; split <;> omega
/-- Both functions tell this. -/
def Both (a b c v : Value) : Prop := (∀ w, Calls Try.prog 44 #[a, b, c] w (Gives v w)) ∧ (∀ w, Calls Try.prog 45 #[a, b, c] w (Gives v w))
theorem take_in (ga gc la : Int) (gp gm key : Bool) : takeV ga gc gp gm la key = 1 ∨ (takeV ga gc gp gm la key = 2 ∧ key = true) ∨ takeV ga gc gp gm la key = 3 ∨ takeV ga gc gp gm la key = 4 := by
  unfold takeV
  split
  · simp
  · split
    · rename_i h; simp [h.2.2]
    · split <;> simp
theorem media_cases (ga gc : Int) (gp gm cl : Bool) (ci co cn : Int) (ka : Bool) (ko kl out fr se oc : Int) (mk : Bool) (ty sq tm ss : Int) (cA : Option Addr) (cL cC : Nat) (hx : Bool) (pf : Int) (eA : Option Addr) (eL eC : Nat) (pA : Option Addr) (pL pC : Nat) (pad : Int) (la : Int) (ke st : Bool) (df : Int) (hsq : 0 ≤ sq) (hsq' : sq ≤ 65535) (htm : 0 ≤ tm) (htm' : tm ≤ 4294967295) (hci : 0 ≤ ci) (hci' : ci ≤ 65535) (hcn : 0 ≤ cn) (hcn' : cn ≤ 65535) (hko : 0 ≤ ko) (hko' : ko ≤ 4294967295) (hkl : 0 ≤ kl) (hkl' : kl ≤ 4294967295) (hfr : 0 ≤ fr) (hfr' : fr ≤ 65535) (hse : 0 ≤ se) (hse' : se ≤ 4294967295) (hoc : 0 ≤ oc) (hoc' : oc ≤ 4294967295) (hpl : pL ≤ 9223372036854775807) :
    (∃ v, (v = 3 ∨ v = 4) ∧ takeV ga gc gp gm la (ke && st) = v ∧ Both (track ga gc gp gm cl ci co cn ka ko kl out fr se oc) (packetV mk ty sq tm ss cA cL cC hx pf eA eL eC pA pL pC pad) (descV la ke st df) (.tuple #[track ga gc gp gm cl ci co cn ka ko kl out fr se oc, patchV 0 0 0 0, .int .i64 v])) ∨
    (takeV ga gc gp gm la (ke && st) = 1 ∧ cl = true ∧ ahead sq ci = false ∧ Both (track ga gc gp gm cl ci co cn ka ko kl out fr se oc) (packetV mk ty sq tm ss cA cL cC hx pf eA eL eC pA pL pC pad) (descV la ke st df) (.tuple #[track ga gc gp gm cl ci co cn ka ko kl out fr se oc, patchV 0 0 0 0, .int .i64 5])) ∨
    (takeV ga gc gp gm la (ke && st) = 1 ∧ (cl = true → ahead sq ci = true) ∧ Both (track ga gc gp gm cl ci co cn ka ko kl out fr se oc) (packetV mk ty sq tm ss cA cL cC hx pf eA eL eC pA pL pC pad) (descV la ke st df) (.tuple #[track ga gc gp gm true sq ((cn - sq) % 65536) ((cn + 1) % 65536) true ko ((tm + ko) % 4294967296) out (frameV st fr) ((se + 1) % 4294967296) ((oc + pL) % 4294967296), patchV cn ((tm + ko) % 4294967296) out (frameV st fr), .int .i64 1])) ∨
    (takeV ga gc gp gm la (ke && st) = 2 ∧ ke = true ∧ st = true ∧ Both (track ga gc gp gm cl ci co cn ka ko kl out fr se oc) (packetV mk ty sq tm ss cA cL cC hx pf eA eL eC pA pL pC pad) (descV la ke st df) (.tuple #[track ga ga gp gm true sq ((cn - sq) % 65536) ((cn + 1) % 65536) true (startV ka kl tm) ((tm + startV ka kl tm) % 4294967296) out ((fr + 1) % 65536) ((se + 1) % 4294967296) ((oc + pL) % 4294967296), patchV cn ((tm + startV ka kl tm) % 4294967296) out ((fr + 1) % 65536), .int .i64 2])) := by
  rcases take_in ga gc la gp gm (ke && st) with hv | ⟨hv, hk⟩ | hv | hv
  · by_cases hA : cl = true ∧ ahead sq ci = false
    · obtain ⟨rfl, hA⟩ := hA
      right; left
      refine ⟨hv, rfl, hA, ?_⟩
      cases ke
      · exact ⟨fun w => mediaLatefalse ga gc gp gm ci co cn ka ko kl out fr se oc mk ty sq tm ss cA cL cC hx pf eA eL eC pA pL pC pad la st df w hv hA hsq hsq' htm htm' hci hci' hcn hcn' hko hko' hkl hkl' hfr hfr' hse hse' hoc hoc' hpl, fun w => refLatefalse ga gc gp gm ci co cn ka ko kl out fr se oc mk ty sq tm ss cA cL cC hx pf eA eL eC pA pL pC pad la st df w hv hA hsq hsq' htm htm' hci hci' hcn hcn' hko hko' hkl hkl' hfr hfr' hse hse' hoc hoc' hpl⟩
      · exact ⟨fun w => mediaLatetrue ga gc gp gm ci co cn ka ko kl out fr se oc mk ty sq tm ss cA cL cC hx pf eA eL eC pA pL pC pad la st df w hv hA hsq hsq' htm htm' hci hci' hcn hcn' hko hko' hkl hkl' hfr hfr' hse hse' hoc hoc' hpl, fun w => refLatetrue ga gc gp gm ci co cn ka ko kl out fr se oc mk ty sq tm ss cA cL cC hx pf eA eL eC pA pL pC pad la st df w hv hA hsq hsq' htm htm' hci hci' hcn hcn' hko hko' hkl hkl' hfr hfr' hse hse' hoc hoc' hpl⟩
    · have hA : cl = true → ahead sq ci = true := by cases h : ahead sq ci <;> simp_all
      right; right; left
      refine ⟨hv, hA, ?_⟩
      cases ke <;> cases st
      · exact ⟨fun w => mediaSentfalsefalse ga gc gp gm cl ci co cn ka ko kl out fr se oc mk ty sq tm ss cA cL cC hx pf eA eL eC pA pL pC pad la df w hv (Lib.hid hA) hsq hsq' htm htm' hci hci' hcn hcn' hko hko' hkl hkl' hfr hfr' hse hse' hoc hoc' hpl, fun w => refSentfalsefalse ga gc gp gm cl ci co cn ka ko kl out fr se oc mk ty sq tm ss cA cL cC hx pf eA eL eC pA pL pC pad la df w hv (Lib.hid hA) hsq hsq' htm htm' hci hci' hcn hcn' hko hko' hkl hkl' hfr hfr' hse hse' hoc hoc' hpl⟩
      · exact ⟨fun w => mediaSentfalsetrue ga gc gp gm cl ci co cn ka ko kl out fr se oc mk ty sq tm ss cA cL cC hx pf eA eL eC pA pL pC pad la df w hv (Lib.hid hA) hsq hsq' htm htm' hci hci' hcn hcn' hko hko' hkl hkl' hfr hfr' hse hse' hoc hoc' hpl, fun w => refSentfalsetrue ga gc gp gm cl ci co cn ka ko kl out fr se oc mk ty sq tm ss cA cL cC hx pf eA eL eC pA pL pC pad la df w hv (Lib.hid hA) hsq hsq' htm htm' hci hci' hcn hcn' hko hko' hkl hkl' hfr hfr' hse hse' hoc hoc' hpl⟩
      · exact ⟨fun w => mediaSenttruefalse ga gc gp gm cl ci co cn ka ko kl out fr se oc mk ty sq tm ss cA cL cC hx pf eA eL eC pA pL pC pad la df w hv (Lib.hid hA) hsq hsq' htm htm' hci hci' hcn hcn' hko hko' hkl hkl' hfr hfr' hse hse' hoc hoc' hpl, fun w => refSenttruefalse ga gc gp gm cl ci co cn ka ko kl out fr se oc mk ty sq tm ss cA cL cC hx pf eA eL eC pA pL pC pad la df w hv (Lib.hid hA) hsq hsq' htm htm' hci hci' hcn hcn' hko hko' hkl hkl' hfr hfr' hse hse' hoc hoc' hpl⟩
      · exact ⟨fun w => mediaSenttruetrue ga gc gp gm cl ci co cn ka ko kl out fr se oc mk ty sq tm ss cA cL cC hx pf eA eL eC pA pL pC pad la df w hv (Lib.hid hA) hsq hsq' htm htm' hci hci' hcn hcn' hko hko' hkl hkl' hfr hfr' hse hse' hoc hoc' hpl, fun w => refSenttruetrue ga gc gp gm cl ci co cn ka ko kl out fr se oc mk ty sq tm ss cA cL cC hx pf eA eL eC pA pL pC pad la df w hv (Lib.hid hA) hsq hsq' htm htm' hci hci' hcn hcn' hko hko' hkl hkl' hfr hfr' hse hse' hoc hoc' hpl⟩
  · simp only [Bool.and_eq_true] at hk
    obtain ⟨rfl, rfl⟩ := hk
    right; right; right
    exact ⟨hv, rfl, rfl, fun w => mediaSwitch ga gc gp gm cl ci co cn ka ko kl out fr se oc mk ty sq tm ss cA cL cC hx pf eA eL eC pA pL pC pad la df w hv hsq hsq' htm htm' hci hci' hcn hcn' hko hko' hkl hkl' hfr hfr' hse hse' hoc hoc' hpl, fun w => refSwitch ga gc gp gm cl ci co cn ka ko kl out fr se oc mk ty sq tm ss cA cL cC hx pf eA eL eC pA pL pC pad la df w hv hsq hsq' htm htm' hci hci' hcn hcn' hko hko' hkl hkl' hfr hfr' hse hse' hoc hoc' hpl⟩
  · left
    refine ⟨3, Or.inl rfl, hv, ?_⟩
    cases ke
    · exact ⟨fun w => mediaShut3false ga gc gp gm cl ci co cn ka ko kl out fr se oc mk ty sq tm ss cA cL cC hx pf eA eL eC pA pL pC pad la st df w hv, fun w => refShut3false ga gc gp gm cl ci co cn ka ko kl out fr se oc mk ty sq tm ss cA cL cC hx pf eA eL eC pA pL pC pad la st df w hv⟩
    · exact ⟨fun w => mediaShut3true ga gc gp gm cl ci co cn ka ko kl out fr se oc mk ty sq tm ss cA cL cC hx pf eA eL eC pA pL pC pad la st df w hv, fun w => refShut3true ga gc gp gm cl ci co cn ka ko kl out fr se oc mk ty sq tm ss cA cL cC hx pf eA eL eC pA pL pC pad la st df w hv⟩
  · left
    refine ⟨4, Or.inr rfl, hv, ?_⟩
    cases ke
    · exact ⟨fun w => mediaShut4false ga gc gp gm cl ci co cn ka ko kl out fr se oc mk ty sq tm ss cA cL cC hx pf eA eL eC pA pL pC pad la st df w hv, fun w => refShut4false ga gc gp gm cl ci co cn ka ko kl out fr se oc mk ty sq tm ss cA cL cC hx pf eA eL eC pA pL pC pad la st df w hv⟩
    · exact ⟨fun w => mediaShut4true ga gc gp gm cl ci co cn ka ko kl out fr se oc mk ty sq tm ss cA cL cC hx pf eA eL eC pA pL pC pad la st df w hv, fun w => refShut4true ga gc gp gm cl ci co cn ka ko kl out fr se oc mk ty sq tm ss cA cL cC hx pf eA eL eC pA pL pC pad la st df w hv⟩
end Go.Proofs.Ytplhgpeeekjfcaa

