/-
  No cell of these rows narrows 'for every input' (looked for: loops, veiled, ifaces, maps, wideKeys, modest, calm, conditions, laid).
  DERIVED. THE GIVEN ROWS OF THIS SEAT. 9 by the template 'for every input the law returns true; each argument reads behind the call as it read before'; 0 by the template 'total and deterministic' (their statements: YtaiieopllffljaaTotals.lean).
  GIVEN WITH THE SEED: the statements are not yours to turn. If you find one false, say at which input.
  Laid BY PROGRAM, IN A SANDBOX (cutbox-rows.mjs): the forced cells as the released guide's own fill.sh prints them over the translation eb560d1697d5bf50… (all of the seat's roots in one cut). By AI agents, Wed Nov 11 2026. No macro, syntax, notation, axiom, sorry.
-/
import Derived.Test.YtaiieopllffljaaChecked
import GoSem.Claim
import GoSem.ClaimJoined
import GoSem.ClaimMapViews
import Derived.JoinedTies
import Derived.KernelRfl
namespace Go.Proofs.Ytaiieopllffljaa
/- THE CELL 'sum', in the pinned program and in every row, IS THE sha256 OF THE DUMP (.gsa) THAT YtaiieopllffljaaProg.lean LOADS. Nothing in Lean hashes anything: it is a label: what it is worth is what the hold of that sum in a sandbox is worth. -/
noncomputable def Try.pinned : Pinned := { name := "ytaiieopllffljaa", sum := "eb560d1697d5bf507f57a3d0c4487de1b6bb78038b077fda6ec0afe34137ab2c", checked := Try.checked }
namespace Rows
def none {H : Type} : Left H := { results := [], args := [] }

/-- 'casketlaw9.FrameUnpacks': WHATEVER THE INPUT: true; the input reads as it did. -/
def frameUnpacksSpec : ChangeSpec := { name := "frameUnpacks", fn := fun _ => fun
  | [d1, d2] => { results := [.lit (.bool true)], args := [d1, d2] }
  | _ => none }
def frameUnpacksRow : OpenClaim := { program := "ytaiieopllffljaa", sum := "eb560d1697d5bf507f57a3d0c4487de1b6bb78038b077fda6ec0afe34137ab2c", func := "casket/casketlaw9.FrameUnpacks", spec := "frameUnpacks", apart := false }
def FrameUnpacksSaid : Prop := frameUnpacksRow.holds Try.pinned (OpenSpec.ofChange frameUnpacksSpec)

/-- ITS FALSE NEIGHBOUR: 'it returns false'. Refute it at one input. -/
def frameUnpacksWrong : ChangeSpec := { name := "frameUnpacks", fn := fun _ => fun
  | [d1, d2] => { results := [.lit (.bool false)], args := [d1, d2] }
  | _ => none }
def FrameUnpacksWrongFalsely : Prop := frameUnpacksRow.holds Try.pinned (OpenSpec.ofChange frameUnpacksWrong)

/-- 'casketlaw9.FrameBuckets': WHATEVER THE INPUT: true; the input reads as it did. -/
def frameBucketsSpec : ChangeSpec := { name := "frameBuckets", fn := fun _ => fun
  | [d] => { results := [.lit (.bool true)], args := [d] }
  | _ => none }
def frameBucketsRow : OpenClaim := { program := "ytaiieopllffljaa", sum := "eb560d1697d5bf507f57a3d0c4487de1b6bb78038b077fda6ec0afe34137ab2c", func := "casket/casketlaw9.FrameBuckets", spec := "frameBuckets", apart := false }
def FrameBucketsSaid : Prop := frameBucketsRow.holds Try.pinned (OpenSpec.ofChange frameBucketsSpec)

/-- ITS FALSE NEIGHBOUR: 'it returns false'. Refute it at one input. -/
def frameBucketsWrong : ChangeSpec := { name := "frameBuckets", fn := fun _ => fun
  | [d] => { results := [.lit (.bool false)], args := [d] }
  | _ => none }
def FrameBucketsWrongFalsely : Prop := frameBucketsRow.holds Try.pinned (OpenSpec.ofChange frameBucketsWrong)

/-- 'casketlaw9.FrameSizes': WHATEVER THE INPUT: true; the input reads as it did. -/
def frameSizesSpec : ChangeSpec := { name := "frameSizes", fn := fun _ => fun
  | [d1, d2] => { results := [.lit (.bool true)], args := [d1, d2] }
  | _ => none }
def frameSizesRow : OpenClaim := { program := "ytaiieopllffljaa", sum := "eb560d1697d5bf507f57a3d0c4487de1b6bb78038b077fda6ec0afe34137ab2c", func := "casket/casketlaw9.FrameSizes", spec := "frameSizes", apart := false }
def FrameSizesSaid : Prop := frameSizesRow.holds Try.pinned (OpenSpec.ofChange frameSizesSpec)

/-- ITS FALSE NEIGHBOUR: 'it returns false'. Refute it at one input. -/
def frameSizesWrong : ChangeSpec := { name := "frameSizes", fn := fun _ => fun
  | [d1, d2] => { results := [.lit (.bool false)], args := [d1, d2] }
  | _ => none }
def FrameSizesWrongFalsely : Prop := frameSizesRow.holds Try.pinned (OpenSpec.ofChange frameSizesWrong)

/-- 'casketlaw9.FrameLittle': WHATEVER THE INPUT: true; the input reads as it did. -/
def frameLittleSpec : ChangeSpec := { name := "frameLittle", fn := fun _ => fun
  | [d1, d2] => { results := [.lit (.bool true)], args := [d1, d2] }
  | _ => none }
def frameLittleRow : OpenClaim := { program := "ytaiieopllffljaa", sum := "eb560d1697d5bf507f57a3d0c4487de1b6bb78038b077fda6ec0afe34137ab2c", func := "casket/casketlaw9.FrameLittle", spec := "frameLittle", apart := false }
def FrameLittleSaid : Prop := frameLittleRow.holds Try.pinned (OpenSpec.ofChange frameLittleSpec)

/-- ITS FALSE NEIGHBOUR: 'it returns false'. Refute it at one input. -/
def frameLittleWrong : ChangeSpec := { name := "frameLittle", fn := fun _ => fun
  | [d1, d2] => { results := [.lit (.bool false)], args := [d1, d2] }
  | _ => none }
def FrameLittleWrongFalsely : Prop := frameLittleRow.holds Try.pinned (OpenSpec.ofChange frameLittleWrong)

/-- 'casketlaw9.FramePacks': WHATEVER THE INPUT: true; the input reads as it did. -/
def framePacksSpec : ChangeSpec := { name := "framePacks", fn := fun _ => fun
  | [d1, d2, d3, d4] => { results := [.lit (.bool true)], args := [d1, d2, d3, d4] }
  | _ => none }
def framePacksRow : OpenClaim := { program := "ytaiieopllffljaa", sum := "eb560d1697d5bf507f57a3d0c4487de1b6bb78038b077fda6ec0afe34137ab2c", func := "casket/casketlaw9.FramePacks", spec := "framePacks", inPlace := ["internal/abi.NoEscape", "internal/bytealg.MakeNoZero"], apart := false }
def FramePacksSaid : Prop := framePacksRow.holds Try.pinned (OpenSpec.ofChange framePacksSpec)

/-- ITS FALSE NEIGHBOUR: 'it returns false'. Refute it at one input. -/
def framePacksWrong : ChangeSpec := { name := "framePacks", fn := fun _ => fun
  | [d1, d2, d3, d4] => { results := [.lit (.bool false)], args := [d1, d2, d3, d4] }
  | _ => none }
def FramePacksWrongFalsely : Prop := framePacksRow.holds Try.pinned (OpenSpec.ofChange framePacksWrong)

/-- 'casketlaw9.FrameOnly': WHATEVER THE INPUT: true; the input reads as it did. -/
def frameOnlySpec : ChangeSpec := { name := "frameOnly", fn := fun _ => fun
  | [d1, d2] => { results := [.lit (.bool true)], args := [d1, d2] }
  | _ => none }
def frameOnlyRow : OpenClaim := { program := "ytaiieopllffljaa", sum := "eb560d1697d5bf507f57a3d0c4487de1b6bb78038b077fda6ec0afe34137ab2c", func := "casket/casketlaw9.FrameOnly", spec := "frameOnly", inPlace := ["internal/abi.NoEscape", "internal/bytealg.MakeNoZero"], apart := false }
def FrameOnlySaid : Prop := frameOnlyRow.holds Try.pinned (OpenSpec.ofChange frameOnlySpec)

/-- ITS FALSE NEIGHBOUR: 'it returns false'. Refute it at one input. -/
def frameOnlyWrong : ChangeSpec := { name := "frameOnly", fn := fun _ => fun
  | [d1, d2] => { results := [.lit (.bool false)], args := [d1, d2] }
  | _ => none }
def FrameOnlyWrongFalsely : Prop := frameOnlyRow.holds Try.pinned (OpenSpec.ofChange frameOnlyWrong)

/-- 'casketlaw9.FrameSpoilt': WHATEVER THE INPUT: true; the input reads as it did. -/
def frameSpoiltSpec : ChangeSpec := { name := "frameSpoilt", fn := fun _ => fun
  | [d1, d2, d3, d4] => { results := [.lit (.bool true)], args := [d1, d2, d3, d4] }
  | _ => none }
def frameSpoiltRow : OpenClaim := { program := "ytaiieopllffljaa", sum := "eb560d1697d5bf507f57a3d0c4487de1b6bb78038b077fda6ec0afe34137ab2c", func := "casket/casketlaw9.FrameSpoilt", spec := "frameSpoilt", inPlace := ["internal/abi.NoEscape", "internal/bytealg.MakeNoZero"], apart := false }
def FrameSpoiltSaid : Prop := frameSpoiltRow.holds Try.pinned (OpenSpec.ofChange frameSpoiltSpec)

/-- ITS FALSE NEIGHBOUR: 'it returns false'. Refute it at one input. -/
def frameSpoiltWrong : ChangeSpec := { name := "frameSpoilt", fn := fun _ => fun
  | [d1, d2, d3, d4] => { results := [.lit (.bool false)], args := [d1, d2, d3, d4] }
  | _ => none }
def FrameSpoiltWrongFalsely : Prop := frameSpoiltRow.holds Try.pinned (OpenSpec.ofChange frameSpoiltWrong)

/-- 'casketlaw9.FrameAlike': WHATEVER THE INPUT: true; the input reads as it did. -/
def frameAlikeSpec : ChangeSpec := { name := "frameAlike", fn := fun _ => fun
  | [d1, d2, d3] => { results := [.lit (.bool true)], args := [d1, d2, d3] }
  | _ => none }
def frameAlikeRow : OpenClaim := { program := "ytaiieopllffljaa", sum := "eb560d1697d5bf507f57a3d0c4487de1b6bb78038b077fda6ec0afe34137ab2c", func := "casket/casketlaw9.FrameAlike", spec := "frameAlike", inPlace := ["internal/abi.NoEscape", "internal/bytealg.MakeNoZero"], apart := false }
def FrameAlikeSaid : Prop := frameAlikeRow.holds Try.pinned (OpenSpec.ofChange frameAlikeSpec)

/-- ITS FALSE NEIGHBOUR: 'it returns false'. Refute it at one input. -/
def frameAlikeWrong : ChangeSpec := { name := "frameAlike", fn := fun _ => fun
  | [d1, d2, d3] => { results := [.lit (.bool false)], args := [d1, d2, d3] }
  | _ => none }
def FrameAlikeWrongFalsely : Prop := frameAlikeRow.holds Try.pinned (OpenSpec.ofChange frameAlikeWrong)

/-- 'casketlaw9.FrameBack': WHATEVER THE INPUT: true; the input reads as it did. -/
def frameBackSpec : ChangeSpec := { name := "frameBack", fn := fun _ => fun
  | [d1, d2, d3, d4] => { results := [.lit (.bool true)], args := [d1, d2, d3, d4] }
  | _ => none }
def frameBackRow : OpenClaim := { program := "ytaiieopllffljaa", sum := "eb560d1697d5bf507f57a3d0c4487de1b6bb78038b077fda6ec0afe34137ab2c", func := "casket/casketlaw9.FrameBack", spec := "frameBack", inPlace := ["internal/abi.NoEscape", "internal/bytealg.MakeNoZero"], apart := false }
def FrameBackSaid : Prop := frameBackRow.holds Try.pinned (OpenSpec.ofChange frameBackSpec)

/-- ITS FALSE NEIGHBOUR: 'it returns false'. Refute it at one input. -/
def frameBackWrong : ChangeSpec := { name := "frameBack", fn := fun _ => fun
  | [d1, d2, d3, d4] => { results := [.lit (.bool false)], args := [d1, d2, d3, d4] }
  | _ => none }
def FrameBackWrongFalsely : Prop := frameBackRow.holds Try.pinned (OpenSpec.ofChange frameBackWrong)

/- THE SECOND FORM. 'bulk': how many values and letters a reading holds, each counted each time it is reached (what is shared counts as often as it is met; a slice's spare places count too). A statement '..UptoSaid' is the law's where the arguments, and the package variables that the reading takes, are together of bulk at most 1048576: NARROWER than '..Said'. Prove '..Said' where nothing that the law and all that it calls make is longer than what came in: it says more and counts as full. Else prove '..UptoSaid'. A law counts once. -/
mutual
def uptoBulk {H : Type} : DataW H → Nat
  | .lit (.string bytes) => bytes.length + 1
  | .lit _ => 1
  | .nil => 1
  | .ptr d => uptoBulk d + 1
  | .slice elems spare => uptoBulkAll elems + uptoBulkAll spare + 1
  | .agg parts => uptoBulkAll parts + 1
  | .iface _ d => uptoBulk d + 1
  | .map entries => uptoBulkEntries entries + 1
  | .held _ => 1
def uptoBulkAll {H : Type} : List (DataW H) → Nat
  | [] => 0
  | d :: r => uptoBulk d + uptoBulkAll r
def uptoBulkEntries {H : Type} : List (Lit × DataW H) → Nat
  | [] => 0
  | x :: r => uptoBulkEntry x + uptoBulkEntries r
def uptoBulkEntry {H : Type} : Lit × DataW H → Nat
  | (.string bytes, d) => bytes.length + uptoBulk d + 1
  | (_, d) => uptoBulk d + 1
 end
def uptoSmall : (H : Type) → List (DataW H) → Bool := fun _ ds => decide (uptoBulkAll ds ≤ 1048576)
def OpenSpec.upto (s : _root_.Go.ChangeSpec) : _root_.Go.OpenSpec := { _root_.Go.OpenSpec.ofChange s with cond := some uptoSmall }

/-- 'casketlaw9.FrameUnpacks', WHERE WHAT IT READS IS OF BULK AT MOST 1048576: true; the input reads as it did. -/
def frameUnpacksUptoRow : OpenClaim := { program := "ytaiieopllffljaa", sum := "eb560d1697d5bf507f57a3d0c4487de1b6bb78038b077fda6ec0afe34137ab2c", func := "casket/casketlaw9.FrameUnpacks", spec := "frameUnpacks", apart := false, narrowed := true }
def FrameUnpacksUptoSaid : Prop := frameUnpacksUptoRow.holds Try.pinned (OpenSpec.upto frameUnpacksSpec)

/-- 'casketlaw9.FrameBuckets', WHERE WHAT IT READS IS OF BULK AT MOST 1048576: true; the input reads as it did. -/
def frameBucketsUptoRow : OpenClaim := { program := "ytaiieopllffljaa", sum := "eb560d1697d5bf507f57a3d0c4487de1b6bb78038b077fda6ec0afe34137ab2c", func := "casket/casketlaw9.FrameBuckets", spec := "frameBuckets", apart := false, narrowed := true }
def FrameBucketsUptoSaid : Prop := frameBucketsUptoRow.holds Try.pinned (OpenSpec.upto frameBucketsSpec)

/-- 'casketlaw9.FrameSizes', WHERE WHAT IT READS IS OF BULK AT MOST 1048576: true; the input reads as it did. -/
def frameSizesUptoRow : OpenClaim := { program := "ytaiieopllffljaa", sum := "eb560d1697d5bf507f57a3d0c4487de1b6bb78038b077fda6ec0afe34137ab2c", func := "casket/casketlaw9.FrameSizes", spec := "frameSizes", apart := false, narrowed := true }
def FrameSizesUptoSaid : Prop := frameSizesUptoRow.holds Try.pinned (OpenSpec.upto frameSizesSpec)

/-- 'casketlaw9.FrameLittle', WHERE WHAT IT READS IS OF BULK AT MOST 1048576: true; the input reads as it did. -/
def frameLittleUptoRow : OpenClaim := { program := "ytaiieopllffljaa", sum := "eb560d1697d5bf507f57a3d0c4487de1b6bb78038b077fda6ec0afe34137ab2c", func := "casket/casketlaw9.FrameLittle", spec := "frameLittle", apart := false, narrowed := true }
def FrameLittleUptoSaid : Prop := frameLittleUptoRow.holds Try.pinned (OpenSpec.upto frameLittleSpec)

/-- 'casketlaw9.FramePacks', WHERE WHAT IT READS IS OF BULK AT MOST 1048576: true; the input reads as it did. -/
def framePacksUptoRow : OpenClaim := { program := "ytaiieopllffljaa", sum := "eb560d1697d5bf507f57a3d0c4487de1b6bb78038b077fda6ec0afe34137ab2c", func := "casket/casketlaw9.FramePacks", spec := "framePacks", inPlace := ["internal/abi.NoEscape", "internal/bytealg.MakeNoZero"], apart := false, narrowed := true }
def FramePacksUptoSaid : Prop := framePacksUptoRow.holds Try.pinned (OpenSpec.upto framePacksSpec)

/-- 'casketlaw9.FrameOnly', WHERE WHAT IT READS IS OF BULK AT MOST 1048576: true; the input reads as it did. -/
def frameOnlyUptoRow : OpenClaim := { program := "ytaiieopllffljaa", sum := "eb560d1697d5bf507f57a3d0c4487de1b6bb78038b077fda6ec0afe34137ab2c", func := "casket/casketlaw9.FrameOnly", spec := "frameOnly", inPlace := ["internal/abi.NoEscape", "internal/bytealg.MakeNoZero"], apart := false, narrowed := true }
def FrameOnlyUptoSaid : Prop := frameOnlyUptoRow.holds Try.pinned (OpenSpec.upto frameOnlySpec)

/-- 'casketlaw9.FrameSpoilt', WHERE WHAT IT READS IS OF BULK AT MOST 1048576: true; the input reads as it did. -/
def frameSpoiltUptoRow : OpenClaim := { program := "ytaiieopllffljaa", sum := "eb560d1697d5bf507f57a3d0c4487de1b6bb78038b077fda6ec0afe34137ab2c", func := "casket/casketlaw9.FrameSpoilt", spec := "frameSpoilt", inPlace := ["internal/abi.NoEscape", "internal/bytealg.MakeNoZero"], apart := false, narrowed := true }
def FrameSpoiltUptoSaid : Prop := frameSpoiltUptoRow.holds Try.pinned (OpenSpec.upto frameSpoiltSpec)

/-- 'casketlaw9.FrameAlike', WHERE WHAT IT READS IS OF BULK AT MOST 1048576: true; the input reads as it did. -/
def frameAlikeUptoRow : OpenClaim := { program := "ytaiieopllffljaa", sum := "eb560d1697d5bf507f57a3d0c4487de1b6bb78038b077fda6ec0afe34137ab2c", func := "casket/casketlaw9.FrameAlike", spec := "frameAlike", inPlace := ["internal/abi.NoEscape", "internal/bytealg.MakeNoZero"], apart := false, narrowed := true }
def FrameAlikeUptoSaid : Prop := frameAlikeUptoRow.holds Try.pinned (OpenSpec.upto frameAlikeSpec)

/-- 'casketlaw9.FrameBack', WHERE WHAT IT READS IS OF BULK AT MOST 1048576: true; the input reads as it did. -/
def frameBackUptoRow : OpenClaim := { program := "ytaiieopllffljaa", sum := "eb560d1697d5bf507f57a3d0c4487de1b6bb78038b077fda6ec0afe34137ab2c", func := "casket/casketlaw9.FrameBack", spec := "frameBack", inPlace := ["internal/abi.NoEscape", "internal/bytealg.MakeNoZero"], apart := false, narrowed := true }
def FrameBackUptoSaid : Prop := frameBackUptoRow.holds Try.pinned (OpenSpec.upto frameBackSpec)

end Rows
end Go.Proofs.Ytaiieopllffljaa
