/- Engine 23: bytes, xor -/
import Derived.Test.YtcoohckdnefacaaDoorS16
namespace Go.Proofs.YtcoohckdnefacaaDoor.S
open Go.RowKit
set_option linter.unusedVariables false
set_option linter.unusedSimpArgs false
set_option maxRecDepth 100000
section
variable {P : Program} {e : Env} {L : List Hp} {F : Fr} {d : Option Nat} {t u v1 : TypeId} {p : String} {af : Array Edge} {g : Option (Nat × Bool)} {x y : Operand}
theorem xor_one (a : UInt8) : (IntKind.u8.wrap ((a.toNat ^^^ 1 : Nat) : Int)) = ((a ^^^ 1).toNat : Int) := by
  rw [IntKind.wrap_u8, UInt8.toNat_xor]
  have h1 : (1 : UInt8).toNat = 1 := rfl
  have h2 : a.toNat ^^^ 1 < 2 ^ 8 := Nat.xor_lt_two_pow (by have := a.toNat_lt; simpa using this) (by decide)
  rw [h1]
  omega
instance sv_xor1 {a : UInt8} [hx : EvO e x (.int .u8 (a.toNat : Int))] [hy : EvO e y (.int .u8 1)] : StepV P e L F ⟨d, .binOp .xor t x y u, v1, p, af, g⟩ (.int .u8 ((a ^^^ 1).toNat : Int)) := ⟨fun hf _ => by
  have h1 := xor_one a
  have h2 : a.toNat % 2 ^ IntKind.u8.bits = a.toNat := Nat.mod_eq_of_lt (by have := a.toNat_lt; simpa [IntKind.bits] using this)
  have h3 : 1 % 2 ^ IntKind.u8.bits = 1 := rfl
  rw [UInt8.toNat_xor] at h1
  simp [execOp, hx.out hf, hy.out hf, guard_int, binOp, Op.intBits, h2, h3]
  exact h1⟩
end
end Go.Proofs.YtcoohckdnefacaaDoor.S
