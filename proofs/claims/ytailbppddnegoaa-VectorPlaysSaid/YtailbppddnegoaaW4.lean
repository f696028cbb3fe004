/- Words of memory, more: cuts of slices as run equations under one name. -/
import Derived.Test.YtailbppddnegoaaW3
namespace Go.Proofs.Ytailbppddnegoaa
open Go.RowKit
set_option linter.unusedVariables false
set_option maxRecDepth 100000

/-- The address of 's[k:]'. -/
def cutA (A : Option Addr) (c k : Nat) : Option Addr := if c = k then A else A.map (·.add k)
theorem add0 (A : Option Addr) : A.map (·.add 0) = A := by cases A <;> simp [Addr.add]
theorem Rd.cutA_ {w : World} {B n k c : Nat} {A : Option Addr} {xs : List Value} (h : Rd w B 1 A n xs) (hk : k ≤ n) (hc : n ≤ c) : Rd w B 1 (cutA A c k) (n - k) (xs.drop k) := h.cut hk hc
section
variable {P : Program} (t : TypeId) (ht : P.underlying t = some (.slice (P.elem t))) (hs : ∀ w, (sizeOf (P.elem t)).run P w = .ok 1 w)
include ht hs
theorem run_from (A : Option Addr) (n c k : Nat) (hk : k ≤ n) (w : World) :
    (Instr.slice t (.slice A n c) (some (.int .i64 k)) none none).run P w = .ok (.slice (cutA A c k) (n - k) (c - k)) w := by
  rw [run_slice_l w t A n c ht .i64 k (by omega) (by omega), hs]
  simp [sliced, cutA, Result.andThen]
theorem run_to (A : Option Addr) (n c k : Nat) (hk : k ≤ c) (w : World) :
    (Instr.slice t (.slice A n c) none (some (.int .i64 k)) none).run P w = .ok (.slice A k c) w := by
  rw [run_slice_h w t A n c ht .i64 k (by omega) (by omega), hs]
  simp [sliced, Result.andThen]
  intro _
  exact add0 A
theorem run_mid (A : Option Addr) (n c l h : Nat) (h1 : l ≤ h) (h2 : h ≤ c) (w : World) :
    (Instr.slice t (.slice A n c) (some (.int .i64 l)) (some (.int .i64 h)) none).run P w = .ok (.slice (cutA A c l) (h - l) (c - l)) w := by
  rw [run_slice_lh w t A n c ht .i64 .i64 l h (by omega) (by omega) (by omega), hs]
  simp [sliced, cutA, Result.andThen]
theorem run_mid3 (A : Option Addr) (n c l h m : Nat) (h1 : l ≤ h) (h2 : h ≤ m) (h3 : m ≤ c) (w : World) :
    (Instr.slice t (.slice A n c) (some (.int .i64 l)) (some (.int .i64 h)) (some (.int .i64 m))).run P w = .ok (.slice (cutA A m l) (h - l) (m - l)) w := by
  rw [run_slice_lhm w t A n c ht .i64 .i64 .i64 l h m (by omega) (by omega) (by omega) (by omega), hs]
  simp [sliced, cutA, Result.andThen]
end
/-- 's[l:h]' reads the middle. -/
theorem Rd.mid {w : World} {B n l h c : Nat} {A : Option Addr} {xs : List Value} (r : Rd w B 1 A n xs) (h1 : l ≤ h) (h2 : h ≤ n) (hc : n ≤ c) : Rd w B 1 (cutA A c l) (h - l) ((xs.drop l).take (h - l)) :=
  (r.cut (by omega) hc).front (by omega)
end Go.Proofs.Ytailbppddnegoaa
