/- Layer 3 (crc): the walks of the laws CrcChanges, CrcZeros. -/
import Derived.Test.YtjlmbdhjpjbneaaC2
namespace Go.Proofs.Ytjlmbdhjpjbneaa
open Go.RowKit
set_option linter.unusedVariables false
set_option maxRecDepth 100000

theorem Try.info_b : (Try.prog.info? 5).map (fun i => (i.zero, i.size, i.bytes)) = some (some (.int .u8 0), 1, 1) := by kernel_rfl
theorem own_form1 {w : World} {base n c : Nat} {e : TypeId} {A : Option Addr} {xs : List Value} (h : Own w base e 1 A n c xs) (hn : 0 < n) :
    ∃ g, A = some ⟨g, 0, none⟩ ∧ base ≤ g ∧ g < w.heap.size := by
  rcases h.1.2 with ⟨_, rfl⟩ | ⟨g, cap, cur, hv, h1, h2, _⟩
  · omega
  · injection hv with hA
    subst hA
    exact ⟨g, rfl, h1, (h.1.lt g rfl).2⟩
theorem own_lit0 (w : World) (e : TypeId) : Own (w.alloc (.cells #[] e)) w.heap.size e 1 (some ⟨w.heap.size, 0, none⟩) 0 0 [] :=
  ⟨World.ownsRow_lit _ #[] 0 (Nat.le_refl _) (by simp [maxLen]) rfl, Nat.le_refl _, by simp [maxLen]⟩
theorem own_cell {w : World} {base n c g k : Nat} {e : TypeId} {l : List UInt8} (h : Own w base e 1 (some ⟨g, 0, none⟩) n c (bv l)) (hk : k < n) :
    w.cell? ⟨g, k, none⟩ = some (.int .u8 ((l.getD k 0).toNat : Int)) := by
  have hl : l.length = n := by have := h.len; rw [bv_length] at this; omega
  rw [h.1.cellAt k (by omega), bv_get?]
  simp [List.getD, List.getElem?_eq_getElem (show k < l.length by omega)]
theorem bv_set' (l : List UInt8) (i : Nat) (c : UInt8) : bv (l.set i c) = (bv l).set i (.int .u8 (c.toNat : Int)) := by simp [bv, List.map_set]
end Go.Proofs.Ytjlmbdhjpjbneaa
