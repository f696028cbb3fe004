/- Layer 1 (bits): the contracts of Bytes and High and of the reference's Room, Bytes, SameBytes; awake. -/
import Derived.Test.YtailbppddnegoaaB1
import Derived.Test.YtailbppddnegoaaBM
import Derived.Deep.QuietTactic
import Derived.BigQuiet
import Derived.Deep.LoopGhost
namespace Go.Proofs.Ytailbppddnegoaa
open Go.RowKit
set_option linter.unusedVariables false
set_option maxRecDepth 100000

theorem Try.info_u8 : (Try.prog.info? 5).map (fun i => (i.zero, i.size, i.bytes)) = some (some (.int .u8 0), 1, 1) := by kernel_rfl

/-- A new slice of bytes beside a number that says the error. -/
def NewBytes2 (w : World) (l : List UInt8) (er : Int) (e : Ending) (w' : World) : Prop :=
  ∃ A c, e = .returned (.tuple #[.slice A l.length c, .int .i64 er]) ∧ Own w' w.heap.size 5 1 A l.length c (bv l) ∧ Below w.heap.size w w'

theorem wrap_byte (n k : Nat) (h : k < 8) : (n : Int) / 2 ^ (8 * k) % 256 = ((UInt8.ofNat (n / 256 ^ k % 256)).toNat : Int) := by
  have e : ((n : Int) / 2 ^ (8 * k)) = ((n / 256 ^ k : Nat) : Int) := by rw [pow256]; simp
  rw [e]
  simp
end Go.Proofs.Ytailbppddnegoaa
