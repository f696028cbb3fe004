/-
  No cell of these rows narrows 'for every input' (looked for: loops, veiled, ifaces, maps, wideKeys, modest, calm, conditions, laid).
  DERIVED. THE GIVEN ROWS OF THIS SEAT. 14 by the template 'for every input the law returns true; each argument reads behind the call as it read before'; 0 by the template 'total and deterministic' (their statements: YtjlmbdhjpjbneaaTotals.lean).
  GIVEN WITH THE SEED: the statements are not yours to turn. If you find one false, say at which input.
  Laid BY PROGRAM, IN A SANDBOX (cutbox-rows.mjs): the forced cells as the released guide's own fill.sh prints them over the translation a2fa1eb3a2b757ec… (all of the seat's roots in one cut). By AI agents, Wed Nov 11 2026. No macro, syntax, notation, axiom, sorry.
-/
import Derived.Test.YtjlmbdhjpjbneaaChecked
import GoSem.Claim
import GoSem.ClaimJoined
import GoSem.ClaimMapViews
import Derived.JoinedTies
import Derived.KernelRfl
namespace Go.Proofs.Ytjlmbdhjpjbneaa
/- THE CELL 'sum', in the pinned program and in every row, IS THE sha256 OF THE DUMP (.gsa) THAT YtjlmbdhjpjbneaaProg.lean LOADS. Nothing in Lean hashes anything: it is a label: what it is worth is what the hold of that sum in a sandbox is worth. -/
noncomputable def Try.pinned : Pinned := { name := "ytjlmbdhjpjbneaa", sum := "a2fa1eb3a2b757eced7dd1906120a28d5e4005684cd6eb99825407f45533c0e4", checked := Try.checked }
namespace Rows
def none {H : Type} : Left H := { results := [], args := [] }

/-- 'biscottilaw16.DotOrders': WHATEVER THE INPUT: true; the input reads as it did. -/
def dotOrdersSpec : ChangeSpec := { name := "dotOrders", fn := fun _ => fun
  | [d1, d2] => { results := [.lit (.bool true)], args := [d1, d2] }
  | _ => none }
def dotOrdersRow : OpenClaim := { program := "ytjlmbdhjpjbneaa", sum := "a2fa1eb3a2b757eced7dd1906120a28d5e4005684cd6eb99825407f45533c0e4", func := "biscotti/biscottilaw16.DotOrders", spec := "dotOrders", recurses := true, apart := false }
def DotOrdersSaid : Prop := dotOrdersRow.holds Try.pinned (OpenSpec.ofChange dotOrdersSpec)

/-- ITS FALSE NEIGHBOUR: 'it returns false'. Refute it at one input. -/
def dotOrdersWrong : ChangeSpec := { name := "dotOrders", fn := fun _ => fun
  | [d1, d2] => { results := [.lit (.bool false)], args := [d1, d2] }
  | _ => none }
def DotOrdersWrongFalsely : Prop := dotOrdersRow.holds Try.pinned (OpenSpec.ofChange dotOrdersWrong)

/-- 'biscottilaw19.ClockGoesOn': WHATEVER THE INPUT: true; the input reads as it did. -/
def clockGoesOnSpec : ChangeSpec := { name := "clockGoesOn", fn := fun _ => fun
  | [d1, d2] => { results := [.lit (.bool true)], args := [d1, d2] }
  | _ => none }
def clockGoesOnRow : OpenClaim := { program := "ytjlmbdhjpjbneaa", sum := "a2fa1eb3a2b757eced7dd1906120a28d5e4005684cd6eb99825407f45533c0e4", func := "biscotti/biscottilaw19.ClockGoesOn", spec := "clockGoesOn", unfollowed := true, recurses := true, apart := false }
def ClockGoesOnSaid : Prop := clockGoesOnRow.holds Try.pinned (OpenSpec.ofChange clockGoesOnSpec)

/-- ITS FALSE NEIGHBOUR: 'it returns false'. Refute it at one input. -/
def clockGoesOnWrong : ChangeSpec := { name := "clockGoesOn", fn := fun _ => fun
  | [d1, d2] => { results := [.lit (.bool false)], args := [d1, d2] }
  | _ => none }
def ClockGoesOnWrongFalsely : Prop := clockGoesOnRow.holds Try.pinned (OpenSpec.ofChange clockGoesOnWrong)

/-- 'biscottilaw19.ClockPlays': WHATEVER THE INPUT: true; the input reads as it did. -/
def clockPlaysSpec : ChangeSpec := { name := "clockPlays", fn := fun _ => fun
  | [d1, d2] => { results := [.lit (.bool true)], args := [d1, d2] }
  | _ => none }
def clockPlaysRow : OpenClaim := { program := "ytjlmbdhjpjbneaa", sum := "a2fa1eb3a2b757eced7dd1906120a28d5e4005684cd6eb99825407f45533c0e4", func := "biscotti/biscottilaw19.ClockPlays", spec := "clockPlays", unfollowed := true, recurses := true, apart := false }
def ClockPlaysSaid : Prop := clockPlaysRow.holds Try.pinned (OpenSpec.ofChange clockPlaysSpec)

/-- ITS FALSE NEIGHBOUR: 'it returns false'. Refute it at one input. -/
def clockPlaysWrong : ChangeSpec := { name := "clockPlays", fn := fun _ => fun
  | [d1, d2] => { results := [.lit (.bool false)], args := [d1, d2] }
  | _ => none }
def ClockPlaysWrongFalsely : Prop := clockPlaysRow.holds Try.pinned (OpenSpec.ofChange clockPlaysWrong)

/-- 'biscottilaw19.ClockNear': WHATEVER THE INPUT: true; the input reads as it did. -/
def clockNearSpec : ChangeSpec := { name := "clockNear", fn := fun _ => fun
  | [d1, d2] => { results := [.lit (.bool true)], args := [d1, d2] }
  | _ => none }
def clockNearRow : OpenClaim := { program := "ytjlmbdhjpjbneaa", sum := "a2fa1eb3a2b757eced7dd1906120a28d5e4005684cd6eb99825407f45533c0e4", func := "biscotti/biscottilaw19.ClockNear", spec := "clockNear", unfollowed := true, recurses := true, apart := false }
def ClockNearSaid : Prop := clockNearRow.holds Try.pinned (OpenSpec.ofChange clockNearSpec)

/-- ITS FALSE NEIGHBOUR: 'it returns false'. Refute it at one input. -/
def clockNearWrong : ChangeSpec := { name := "clockNear", fn := fun _ => fun
  | [d1, d2] => { results := [.lit (.bool false)], args := [d1, d2] }
  | _ => none }
def ClockNearWrongFalsely : Prop := clockNearRow.holds Try.pinned (OpenSpec.ofChange clockNearWrong)

/-- 'biscottilaw05.PackPuts': WHATEVER THE INPUT: true; the input reads as it did. -/
def packPutsSpec : ChangeSpec := { name := "packPuts", fn := fun _ => fun
  | [d] => { results := [.lit (.bool true)], args := [d] }
  | _ => none }
def packPutsRow : OpenClaim := { program := "ytjlmbdhjpjbneaa", sum := "a2fa1eb3a2b757eced7dd1906120a28d5e4005684cd6eb99825407f45533c0e4", func := "biscotti/biscottilaw05.PackPuts", spec := "packPuts", apart := false }
def PackPutsSaid : Prop := packPutsRow.holds Try.pinned (OpenSpec.ofChange packPutsSpec)

/-- ITS FALSE NEIGHBOUR: 'it returns false'. Refute it at one input. -/
def packPutsWrong : ChangeSpec := { name := "packPuts", fn := fun _ => fun
  | [d] => { results := [.lit (.bool false)], args := [d] }
  | _ => none }
def PackPutsWrongFalsely : Prop := packPutsRow.holds Try.pinned (OpenSpec.ofChange packPutsWrong)

/-- 'biscottilaw16.DotPacks': WHATEVER THE INPUT: true; the input reads as it did. -/
def dotPacksSpec : ChangeSpec := { name := "dotPacks", fn := fun _ => fun
  | [d] => { results := [.lit (.bool true)], args := [d] }
  | _ => none }
def dotPacksRow : OpenClaim := { program := "ytjlmbdhjpjbneaa", sum := "a2fa1eb3a2b757eced7dd1906120a28d5e4005684cd6eb99825407f45533c0e4", func := "biscotti/biscottilaw16.DotPacks", spec := "dotPacks", recurses := true, apart := false }
def DotPacksSaid : Prop := dotPacksRow.holds Try.pinned (OpenSpec.ofChange dotPacksSpec)

/-- ITS FALSE NEIGHBOUR: 'it returns false'. Refute it at one input. -/
def dotPacksWrong : ChangeSpec := { name := "dotPacks", fn := fun _ => fun
  | [d] => { results := [.lit (.bool false)], args := [d] }
  | _ => none }
def DotPacksWrongFalsely : Prop := dotPacksRow.holds Try.pinned (OpenSpec.ofChange dotPacksWrong)

/-- 'biscottilaw04.FramePuts': WHATEVER THE INPUT: true; the input reads as it did. -/
def framePutsSpec : ChangeSpec := { name := "framePuts", fn := fun _ => fun
  | [d1, d2, d3] => { results := [.lit (.bool true)], args := [d1, d2, d3] }
  | _ => none }
def framePutsRow : OpenClaim := { program := "ytjlmbdhjpjbneaa", sum := "a2fa1eb3a2b757eced7dd1906120a28d5e4005684cd6eb99825407f45533c0e4", func := "biscotti/biscottilaw04.FramePuts", spec := "framePuts", apart := false }
def FramePutsSaid : Prop := framePutsRow.holds Try.pinned (OpenSpec.ofChange framePutsSpec)

/-- ITS FALSE NEIGHBOUR: 'it returns false'. Refute it at one input. -/
def framePutsWrong : ChangeSpec := { name := "framePuts", fn := fun _ => fun
  | [d1, d2, d3] => { results := [.lit (.bool false)], args := [d1, d2, d3] }
  | _ => none }
def FramePutsWrongFalsely : Prop := framePutsRow.holds Try.pinned (OpenSpec.ofChange framePutsWrong)

/-- 'biscottilaw04.FrameGets': WHATEVER THE INPUT: true; the input reads as it did. -/
def frameGetsSpec : ChangeSpec := { name := "frameGets", fn := fun _ => fun
  | [d] => { results := [.lit (.bool true)], args := [d] }
  | _ => none }
def frameGetsRow : OpenClaim := { program := "ytjlmbdhjpjbneaa", sum := "a2fa1eb3a2b757eced7dd1906120a28d5e4005684cd6eb99825407f45533c0e4", func := "biscotti/biscottilaw04.FrameGets", spec := "frameGets", apart := false }
def FrameGetsSaid : Prop := frameGetsRow.holds Try.pinned (OpenSpec.ofChange frameGetsSpec)

/-- ITS FALSE NEIGHBOUR: 'it returns false'. Refute it at one input. -/
def frameGetsWrong : ChangeSpec := { name := "frameGets", fn := fun _ => fun
  | [d] => { results := [.lit (.bool false)], args := [d] }
  | _ => none }
def FrameGetsWrongFalsely : Prop := frameGetsRow.holds Try.pinned (OpenSpec.ofChange frameGetsWrong)

/-- 'biscottilaw04.FrameSpoilt': WHATEVER THE INPUT: true; the input reads as it did. -/
def frameSpoiltSpec : ChangeSpec := { name := "frameSpoilt", fn := fun _ => fun
  | [d1, d2, d3] => { results := [.lit (.bool true)], args := [d1, d2, d3] }
  | _ => none }
def frameSpoiltRow : OpenClaim := { program := "ytjlmbdhjpjbneaa", sum := "a2fa1eb3a2b757eced7dd1906120a28d5e4005684cd6eb99825407f45533c0e4", func := "biscotti/biscottilaw04.FrameSpoilt", spec := "frameSpoilt", apart := false }
def FrameSpoiltSaid : Prop := frameSpoiltRow.holds Try.pinned (OpenSpec.ofChange frameSpoiltSpec)

/-- ITS FALSE NEIGHBOUR: 'it returns false'. Refute it at one input. -/
def frameSpoiltWrong : ChangeSpec := { name := "frameSpoilt", fn := fun _ => fun
  | [d1, d2, d3] => { results := [.lit (.bool false)], args := [d1, d2, d3] }
  | _ => none }
def FrameSpoiltWrongFalsely : Prop := frameSpoiltRow.holds Try.pinned (OpenSpec.ofChange frameSpoiltWrong)

/-- 'biscottilaw04.FrameScans': WHATEVER THE INPUT: true; the input reads as it did. -/
def frameScansSpec : ChangeSpec := { name := "frameScans", fn := fun _ => fun
  | [d1, d2, d3] => { results := [.lit (.bool true)], args := [d1, d2, d3] }
  | _ => none }
def frameScansRow : OpenClaim := { program := "ytjlmbdhjpjbneaa", sum := "a2fa1eb3a2b757eced7dd1906120a28d5e4005684cd6eb99825407f45533c0e4", func := "biscotti/biscottilaw04.FrameScans", spec := "frameScans", apart := false }
def FrameScansSaid : Prop := frameScansRow.holds Try.pinned (OpenSpec.ofChange frameScansSpec)

/-- ITS FALSE NEIGHBOUR: 'it returns false'. Refute it at one input. -/
def frameScansWrong : ChangeSpec := { name := "frameScans", fn := fun _ => fun
  | [d1, d2, d3] => { results := [.lit (.bool false)], args := [d1, d2, d3] }
  | _ => none }
def FrameScansWrongFalsely : Prop := frameScansRow.holds Try.pinned (OpenSpec.ofChange frameScansWrong)

/-- 'biscottilaw05.PackBack': WHATEVER THE INPUT: true; the input reads as it did. -/
def packBackSpec : ChangeSpec := { name := "packBack", fn := fun _ => fun
  | [d] => { results := [.lit (.bool true)], args := [d] }
  | _ => none }
def packBackRow : OpenClaim := { program := "ytjlmbdhjpjbneaa", sum := "a2fa1eb3a2b757eced7dd1906120a28d5e4005684cd6eb99825407f45533c0e4", func := "biscotti/biscottilaw05.PackBack", spec := "packBack", apart := false }
def PackBackSaid : Prop := packBackRow.holds Try.pinned (OpenSpec.ofChange packBackSpec)

/-- ITS FALSE NEIGHBOUR: 'it returns false'. Refute it at one input. -/
def packBackWrong : ChangeSpec := { name := "packBack", fn := fun _ => fun
  | [d] => { results := [.lit (.bool false)], args := [d] }
  | _ => none }
def PackBackWrongFalsely : Prop := packBackRow.holds Try.pinned (OpenSpec.ofChange packBackWrong)

/-- 'biscottilaw19.ClockStamps': WHATEVER THE INPUT: true; the input reads as it did. -/
def clockStampsSpec : ChangeSpec := { name := "clockStamps", fn := fun _ => fun
  | [d1, d2] => { results := [.lit (.bool true)], args := [d1, d2] }
  | _ => none }
def clockStampsRow : OpenClaim := { program := "ytjlmbdhjpjbneaa", sum := "a2fa1eb3a2b757eced7dd1906120a28d5e4005684cd6eb99825407f45533c0e4", func := "biscotti/biscottilaw19.ClockStamps", spec := "clockStamps", unfollowed := true, recurses := true, apart := false }
def ClockStampsSaid : Prop := clockStampsRow.holds Try.pinned (OpenSpec.ofChange clockStampsSpec)

/-- ITS FALSE NEIGHBOUR: 'it returns false'. Refute it at one input. -/
def clockStampsWrong : ChangeSpec := { name := "clockStamps", fn := fun _ => fun
  | [d1, d2] => { results := [.lit (.bool false)], args := [d1, d2] }
  | _ => none }
def ClockStampsWrongFalsely : Prop := clockStampsRow.holds Try.pinned (OpenSpec.ofChange clockStampsWrong)

/-- 'biscottilaw19.ClockGets': WHATEVER THE INPUT: true; the input reads as it did. -/
def clockGetsSpec : ChangeSpec := { name := "clockGets", fn := fun _ => fun
  | [d1, d2] => { results := [.lit (.bool true)], args := [d1, d2] }
  | _ => none }
def clockGetsRow : OpenClaim := { program := "ytjlmbdhjpjbneaa", sum := "a2fa1eb3a2b757eced7dd1906120a28d5e4005684cd6eb99825407f45533c0e4", func := "biscotti/biscottilaw19.ClockGets", spec := "clockGets", unfollowed := true, recurses := true, apart := false }
def ClockGetsSaid : Prop := clockGetsRow.holds Try.pinned (OpenSpec.ofChange clockGetsSpec)

/-- ITS FALSE NEIGHBOUR: 'it returns false'. Refute it at one input. -/
def clockGetsWrong : ChangeSpec := { name := "clockGets", fn := fun _ => fun
  | [d1, d2] => { results := [.lit (.bool false)], args := [d1, d2] }
  | _ => none }
def ClockGetsWrongFalsely : Prop := clockGetsRow.holds Try.pinned (OpenSpec.ofChange clockGetsWrong)

/-- 'biscottilaw05.PackNils': WHATEVER THE INPUT: true; the input reads as it did. -/
def packNilsSpec : ChangeSpec := { name := "packNils", fn := fun _ => fun
  | [d] => { results := [.lit (.bool true)], args := [d] }
  | _ => none }
def packNilsRow : OpenClaim := { program := "ytjlmbdhjpjbneaa", sum := "a2fa1eb3a2b757eced7dd1906120a28d5e4005684cd6eb99825407f45533c0e4", func := "biscotti/biscottilaw05.PackNils", spec := "packNils", apart := false }
def PackNilsSaid : Prop := packNilsRow.holds Try.pinned (OpenSpec.ofChange packNilsSpec)

/-- ITS FALSE NEIGHBOUR: 'it returns false'. Refute it at one input. -/
def packNilsWrong : ChangeSpec := { name := "packNils", fn := fun _ => fun
  | [d] => { results := [.lit (.bool false)], args := [d] }
  | _ => none }
def PackNilsWrongFalsely : Prop := packNilsRow.holds Try.pinned (OpenSpec.ofChange packNilsWrong)

/- THE SECOND FORM. 'bulk': how many values and letters a reading holds, each counted each time it is reached (what is shared counts as often as it is met; a slice's spare places count too). A statement '..UptoSaid' is the law's where the arguments, and the package variables that the reading takes, are together of bulk at most 1048576: NARROWER than '..Said'. Prove '..Said' where nothing that the law and all that it calls make is longer than what came in: it says more and counts as full. Else prove '..UptoSaid'. A law counts once. -/
mutual
def uptoBulk {H : Type} : DataW H → Nat
  | .lit (.string bytes) => bytes.length + 1
  | .lit _ => 1
  | .nil => 1
  | .ptr d => uptoBulk d + 1
  | .slice elems spare => uptoBulkAll elems + uptoBulkAll spare + 1
  | .agg parts => uptoBulkAll parts + 1
  | .iface _ d => uptoBulk d + 1
  | .map entries => uptoBulkEntries entries + 1
  | .held _ => 1
def uptoBulkAll {H : Type} : List (DataW H) → Nat
  | [] => 0
  | d :: r => uptoBulk d + uptoBulkAll r
def uptoBulkEntries {H : Type} : List (Lit × DataW H) → Nat
  | [] => 0
  | x :: r => uptoBulkEntry x + uptoBulkEntries r
def uptoBulkEntry {H : Type} : Lit × DataW H → Nat
  | (.string bytes, d) => bytes.length + uptoBulk d + 1
  | (_, d) => uptoBulk d + 1
 end
def uptoSmall : (H : Type) → List (DataW H) → Bool := fun _ ds => decide (uptoBulkAll ds ≤ 1048576)
def OpenSpec.upto (s : _root_.Go.ChangeSpec) : _root_.Go.OpenSpec := { _root_.Go.OpenSpec.ofChange s with cond := some uptoSmall }

/-- 'biscottilaw16.DotOrders', WHERE WHAT IT READS IS OF BULK AT MOST 1048576: true; the input reads as it did. -/
def dotOrdersUptoRow : OpenClaim := { program := "ytjlmbdhjpjbneaa", sum := "a2fa1eb3a2b757eced7dd1906120a28d5e4005684cd6eb99825407f45533c0e4", func := "biscotti/biscottilaw16.DotOrders", spec := "dotOrders", recurses := true, apart := false, narrowed := true }
def DotOrdersUptoSaid : Prop := dotOrdersUptoRow.holds Try.pinned (OpenSpec.upto dotOrdersSpec)

/-- 'biscottilaw19.ClockGoesOn', WHERE WHAT IT READS IS OF BULK AT MOST 1048576: true; the input reads as it did. -/
def clockGoesOnUptoRow : OpenClaim := { program := "ytjlmbdhjpjbneaa", sum := "a2fa1eb3a2b757eced7dd1906120a28d5e4005684cd6eb99825407f45533c0e4", func := "biscotti/biscottilaw19.ClockGoesOn", spec := "clockGoesOn", unfollowed := true, recurses := true, apart := false, narrowed := true }
def ClockGoesOnUptoSaid : Prop := clockGoesOnUptoRow.holds Try.pinned (OpenSpec.upto clockGoesOnSpec)

/-- 'biscottilaw19.ClockPlays', WHERE WHAT IT READS IS OF BULK AT MOST 1048576: true; the input reads as it did. -/
def clockPlaysUptoRow : OpenClaim := { program := "ytjlmbdhjpjbneaa", sum := "a2fa1eb3a2b757eced7dd1906120a28d5e4005684cd6eb99825407f45533c0e4", func := "biscotti/biscottilaw19.ClockPlays", spec := "clockPlays", unfollowed := true, recurses := true, apart := false, narrowed := true }
def ClockPlaysUptoSaid : Prop := clockPlaysUptoRow.holds Try.pinned (OpenSpec.upto clockPlaysSpec)

/-- 'biscottilaw19.ClockNear', WHERE WHAT IT READS IS OF BULK AT MOST 1048576: true; the input reads as it did. -/
def clockNearUptoRow : OpenClaim := { program := "ytjlmbdhjpjbneaa", sum := "a2fa1eb3a2b757eced7dd1906120a28d5e4005684cd6eb99825407f45533c0e4", func := "biscotti/biscottilaw19.ClockNear", spec := "clockNear", unfollowed := true, recurses := true, apart := false, narrowed := true }
def ClockNearUptoSaid : Prop := clockNearUptoRow.holds Try.pinned (OpenSpec.upto clockNearSpec)

/-- 'biscottilaw05.PackPuts', WHERE WHAT IT READS IS OF BULK AT MOST 1048576: true; the input reads as it did. -/
def packPutsUptoRow : OpenClaim := { program := "ytjlmbdhjpjbneaa", sum := "a2fa1eb3a2b757eced7dd1906120a28d5e4005684cd6eb99825407f45533c0e4", func := "biscotti/biscottilaw05.PackPuts", spec := "packPuts", apart := false, narrowed := true }
def PackPutsUptoSaid : Prop := packPutsUptoRow.holds Try.pinned (OpenSpec.upto packPutsSpec)

/-- 'biscottilaw16.DotPacks', WHERE WHAT IT READS IS OF BULK AT MOST 1048576: true; the input reads as it did. -/
def dotPacksUptoRow : OpenClaim := { program := "ytjlmbdhjpjbneaa", sum := "a2fa1eb3a2b757eced7dd1906120a28d5e4005684cd6eb99825407f45533c0e4", func := "biscotti/biscottilaw16.DotPacks", spec := "dotPacks", recurses := true, apart := false, narrowed := true }
def DotPacksUptoSaid : Prop := dotPacksUptoRow.holds Try.pinned (OpenSpec.upto dotPacksSpec)

/-- 'biscottilaw04.FramePuts', WHERE WHAT IT READS IS OF BULK AT MOST 1048576: true; the input reads as it did. -/
def framePutsUptoRow : OpenClaim := { program := "ytjlmbdhjpjbneaa", sum := "a2fa1eb3a2b757eced7dd1906120a28d5e4005684cd6eb99825407f45533c0e4", func := "biscotti/biscottilaw04.FramePuts", spec := "framePuts", apart := false, narrowed := true }
def FramePutsUptoSaid : Prop := framePutsUptoRow.holds Try.pinned (OpenSpec.upto framePutsSpec)

/-- 'biscottilaw04.FrameGets', WHERE WHAT IT READS IS OF BULK AT MOST 1048576: true; the input reads as it did. -/
def frameGetsUptoRow : OpenClaim := { program := "ytjlmbdhjpjbneaa", sum := "a2fa1eb3a2b757eced7dd1906120a28d5e4005684cd6eb99825407f45533c0e4", func := "biscotti/biscottilaw04.FrameGets", spec := "frameGets", apart := false, narrowed := true }
def FrameGetsUptoSaid : Prop := frameGetsUptoRow.holds Try.pinned (OpenSpec.upto frameGetsSpec)

/-- 'biscottilaw04.FrameSpoilt', WHERE WHAT IT READS IS OF BULK AT MOST 1048576: true; the input reads as it did. -/
def frameSpoiltUptoRow : OpenClaim := { program := "ytjlmbdhjpjbneaa", sum := "a2fa1eb3a2b757eced7dd1906120a28d5e4005684cd6eb99825407f45533c0e4", func := "biscotti/biscottilaw04.FrameSpoilt", spec := "frameSpoilt", apart := false, narrowed := true }
def FrameSpoiltUptoSaid : Prop := frameSpoiltUptoRow.holds Try.pinned (OpenSpec.upto frameSpoiltSpec)

/-- 'biscottilaw04.FrameScans', WHERE WHAT IT READS IS OF BULK AT MOST 1048576: true; the input reads as it did. -/
def frameScansUptoRow : OpenClaim := { program := "ytjlmbdhjpjbneaa", sum := "a2fa1eb3a2b757eced7dd1906120a28d5e4005684cd6eb99825407f45533c0e4", func := "biscotti/biscottilaw04.FrameScans", spec := "frameScans", apart := false, narrowed := true }
def FrameScansUptoSaid : Prop := frameScansUptoRow.holds Try.pinned (OpenSpec.upto frameScansSpec)

/-- 'biscottilaw05.PackBack', WHERE WHAT IT READS IS OF BULK AT MOST 1048576: true; the input reads as it did. -/
def packBackUptoRow : OpenClaim := { program := "ytjlmbdhjpjbneaa", sum := "a2fa1eb3a2b757eced7dd1906120a28d5e4005684cd6eb99825407f45533c0e4", func := "biscotti/biscottilaw05.PackBack", spec := "packBack", apart := false, narrowed := true }
def PackBackUptoSaid : Prop := packBackUptoRow.holds Try.pinned (OpenSpec.upto packBackSpec)

/-- 'biscottilaw19.ClockStamps', WHERE WHAT IT READS IS OF BULK AT MOST 1048576: true; the input reads as it did. -/
def clockStampsUptoRow : OpenClaim := { program := "ytjlmbdhjpjbneaa", sum := "a2fa1eb3a2b757eced7dd1906120a28d5e4005684cd6eb99825407f45533c0e4", func := "biscotti/biscottilaw19.ClockStamps", spec := "clockStamps", unfollowed := true, recurses := true, apart := false, narrowed := true }
def ClockStampsUptoSaid : Prop := clockStampsUptoRow.holds Try.pinned (OpenSpec.upto clockStampsSpec)

/-- 'biscottilaw19.ClockGets', WHERE WHAT IT READS IS OF BULK AT MOST 1048576: true; the input reads as it did. -/
def clockGetsUptoRow : OpenClaim := { program := "ytjlmbdhjpjbneaa", sum := "a2fa1eb3a2b757eced7dd1906120a28d5e4005684cd6eb99825407f45533c0e4", func := "biscotti/biscottilaw19.ClockGets", spec := "clockGets", unfollowed := true, recurses := true, apart := false, narrowed := true }
def ClockGetsUptoSaid : Prop := clockGetsUptoRow.holds Try.pinned (OpenSpec.upto clockGetsSpec)

/-- 'biscottilaw05.PackNils', WHERE WHAT IT READS IS OF BULK AT MOST 1048576: true; the input reads as it did. -/
def packNilsUptoRow : OpenClaim := { program := "ytjlmbdhjpjbneaa", sum := "a2fa1eb3a2b757eced7dd1906120a28d5e4005684cd6eb99825407f45533c0e4", func := "biscotti/biscottilaw05.PackNils", spec := "packNils", apart := false, narrowed := true }
def PackNilsUptoSaid : Prop := packNilsUptoRow.holds Try.pinned (OpenSpec.upto packNilsSpec)

end Rows
end Go.Proofs.Ytjlmbdhjpjbneaa
