/- world: the laws' arguments -/
import Derived.Test.YtbmafpbjkeehaaaWJ
namespace Go.Proofs.Ytbmafpbjkeehaaa.S
open Go.RowKit
set_option linter.unusedVariables false
set_option linter.unusedSimpArgs false
set_option maxRecDepth 100000
def encReg : Enc Reg := ⟨3, by decide, fun r => [.string r.cur, .string r.pend, .bool r.stop], fun _ => rfl, fun x v h => by simp at h; rcases h with rfl | rfl | rfl <;> rfl⟩
theorem opn_str : Opn Try.prog encS 9 StrG := opn_string Try.underlying9 (by kernel_rfl)
theorem opn_i : Opn Try.prog encI 3 IntG := opn_int Try.underlying3 (by kernel_rfl)
theorem opn_b : Opn Try.prog encB 4 BoolG := opn_bool Try.underlying4 (by kernel_rfl)
theorem opn_blb : Opn Try.prog encBlb 56 (fun _ _ => True) :=
  opn_iso (E := encPair encS encS) (opn_struct Try.underlying56 (by kernel_rfl) (opnL_cons rfl opn_str (opnL_one rfl opn_str))) (fun v => ⟨v.1, v.2⟩) rfl (fun v => rfl) (fun _ _ _ => trivial)
theorem opn_reg : Opn Try.prog encReg 32 (fun _ _ => True) :=
  opn_iso (E := encPair encS (encPair encS encB)) (opn_struct Try.underlying32 (by kernel_rfl) (opnL_cons rfl opn_str (opnL_cons rfl opn_str (opnL_one rfl opn_b)))) (fun v => ⟨v.1, v.2.1, v.2.2⟩) rfl (fun v => rfl) (fun _ _ _ => trivial)
def EdtG (w : World) (e : Edt) : Prop := IntG w e.before ∧ IntG w e.kind ∧ IntG w e.put ∧ IntG w e.src
theorem opn_edt : Opn Try.prog encEdt 29 EdtG :=
  opn_iso (E := encPair encI (encPair encI (encPair encI (encPair encI (encPair encS encS))))) (opn_struct Try.underlying29 (by kernel_rfl) (opnL_cons rfl opn_i (opnL_cons rfl opn_i (opnL_cons rfl opn_i (opnL_cons rfl opn_i (opnL_cons rfl opn_str (opnL_one rfl opn_str))))))) (fun v => ⟨v.1, v.2.1, v.2.2.1, v.2.2.2.1, v.2.2.2.2.1, v.2.2.2.2.2⟩) rfl (fun v => rfl) (fun w v h => ⟨h.1, h.2.1, h.2.2.1, h.2.2.2.1⟩)
def OpG (w : World) (o : WOp) : Prop := IntG w o.n
theorem opn_op : Opn Try.prog encOp 34 OpG :=
  opn_iso (E := encPair encI (encPair encI (encPair encS (encPair encS (encPair encEdt (encPair encI (encPair (encSl Blb) encReg))))))) (opn_struct Try.underlying34 (by kernel_rfl) (opnL_cons rfl opn_i (opnL_cons rfl opn_i (opnL_cons rfl opn_str (opnL_cons rfl opn_str (opnL_cons rfl opn_edt (opnL_cons rfl opn_i (opnL_cons rfl (opn_slice (B := 32) Try.underlying30 (by kernel_rfl) (by kernel_rfl) opn_blb) (opnL_one rfl opn_reg)))))))))
    (fun v => ⟨v.1, v.2.1, v.2.2.1, v.2.2.2.1, v.2.2.2.2.1, v.2.2.2.2.2.1, v.2.2.2.2.2.2.1, v.2.2.2.2.2.2.2⟩) rfl (fun v => rfl) (fun w v h => h.2.2.2.2.2.1)
theorem opn_ops : Opn Try.prog (encSl WOp) 22 (SlG encOp 184 OpG) := opn_slice (B := 184) Try.underlying22 (by kernel_rfl) (by kernel_rfl) opn_op
theorem opn_blbs : Opn Try.prog (encSl Blb) 30 (SlG encBlb 32 fun _ _ => True) := opn_slice (B := 32) Try.underlying30 (by kernel_rfl) (by kernel_rfl) opn_blb
theorem open_worldFuse_1 : Opn Try.prog (encSl WOp) 22 (SlG encOp 184 OpG) := opn_ops
theorem worldFuse_calls (x0 : Int) (x1 : Sl WOp) (w : World) (g0 : IntG w x0) (g1 : SlG encOp 184 OpG w x1) :
    Calls Try.prog 3 #[.int .i64 x0, .slice x1.A x1.xs.length x1.c] w fun e w' => e = .returned (.bool true) ∧ Below w.heap.size w w' :=
  (worldFuse_spec x0 x1.A x1.c x1.xs ⟨g0.2, g0.1⟩ g1.2.2.1 (fun o ho => (g1.2.2.2.2 o ho).2)).law w g1.1.ro
end Go.Proofs.Ytbmafpbjkeehaaa.S
