/-
  Media of stamp and of the reference, each by its contract, in four ways (words). No condition but that the numbers fit their kinds.
-/
import Derived.Test.YtplhgpeeekjfcaaStampWhose
import Derived.Test.YtplhgpeeekjfcaaCourse
import Derived.Test.YtplhgpeeekjfcaaBlk
namespace Go.Proofs.Ytplhgpeeekjfcaa
open Go.RowKit Go.Sort Go.BigFrame
set_option linter.unusedVariables false
attribute [local go_sem ↓] Go.wp_at_zero Go.wp_at_succ
def packetV (mk : Bool) (ty sq tm ss : Int) (cA : Option Addr) (cL cC : Nat) (hx : Bool) (pf : Int) (eA : Option Addr) (eL eC : Nat) (pA : Option Addr) (pL pC : Nat) (pad : Int) : Value :=
  .agg #[.bool mk, .int .i64 ty, .int .u16 sq, .int .u32 tm, .int .u32 ss, .slice cA cL cC, .bool hx, .int .u16 pf, .slice eA eL eC, .slice pA pL pC, .int .i64 pad]
instance agg64 : AggIs Try.prog 64 15 := ⟨⟨_, Try.underlying64, rfl⟩, by kernel_rfl⟩
instance agg67 : AggIs Try.prog 67 11 := ⟨⟨_, Try.underlying67, rfl⟩, by kernel_rfl⟩
instance agg69 : AggIs Try.prog 69 4 := ⟨⟨_, Try.underlying69, rfl⟩, by kernel_rfl⟩
instance agg71 : AggIs Try.prog 71 4 := ⟨⟨_, Try.underlying71, rfl⟩, by kernel_rfl⟩
instance agg79 : AggIs Try.prog 79 10 := ⟨⟨_, Try.underlying79, rfl⟩, by kernel_rfl⟩
def startV (ka : Bool) (kl tm : Int) : Int := ((if ka then kl + 3000 else 0) - tm) % 4294967296
theorem wrap_mod (n : Int) : wrap64 n % 4294967296 = n % 4294967296 := by unfold wrap64; omega
theorem wrap_mod2 (n : Int) : IntKind.i64.wrap n % 4294967296 = n % 4294967296 := by
  simp only [IntKind.wrap, IntKind.bits, IntKind.signed]; simp; split <;> omega
theorem around2 (n r : Int) (w : World) (h : n % 4294967296 = r) : Calls Try.prog 54 #[.int .i64 n] w fun e w' => e = .returned (.int .u32 r) ∧ w = w' := by
  subst h; exact around n w
theorem startV_in (ka : Bool) (kl tm : Int) : 0 ≤ startV ka kl tm ∧ startV ka kl tm ≤ 4294967295 := by unfold startV; omega
def descV (la : Int) (ke st : Bool) (df : Int) : Value := .agg #[.int .i64 la, .bool ke, .bool st, .int .u16 df]
def patchV (a b c d : Int) : Value := .agg #[.int .u16 a, .int .u32 b, .int .u32 c, .int .u16 d]
end Go.Proofs.Ytplhgpeeekjfcaa

