/- Layer 5 (pack): the writer. -/
import Derived.Test.YtailbppddnegoaaW5
import Derived.Test.YtailbppddnegoaaV2
namespace Go.Proofs.Ytailbppddnegoaa
open Go.RowKit
set_option linter.unusedVariables false
set_option maxRecDepth 100000

/-- The writer in block b holds the bytes l (own slice A). -/
def Wr (w : World) (base b : Nat) (A : Option Addr) (c : Nat) (l : List UInt8) : Prop :=
  base ≤ b ∧ Whole w b 80 #[.slice A l.length c] ∧ Own w base 5 1 A l.length c (bv l)
/-- A step of the writer in block b: but for b and its bytes nothing old is changed; its bytes lie where they lay, or in a new block. -/
def WStep (w w' : World) (b : Nat) (A A' : Option Addr) : Prop :=
  Ch (fun k => k = b ∨ bl A = some k) w w' ∧ ∀ g, bl A' = some g → bl A = some g ∨ w.heap.size ≤ g
def WEnd (w : World) (base b : Nat) (A : Option Addr) (l : List UInt8) (e : Ending) (w' : World) : Prop :=
  ∃ A' c', e = .returned (.pointer (some ⟨b, 0, none⟩)) ∧ Wr w' base b A' c' l ∧ WStep w w' b A A'

/-- What a new own slice, stored into the writer, leaves. -/
theorem wr_put {w w1 : World} {base b : Nat} {A A1 : Option Addr} {c c1 : Nat} {l L : List UInt8} (h : Wr w base b A c l) (hbase : base ≤ w.heap.size) (o1 : Own w1 w.heap.size 5 1 A1 L.length c1 (bv L)) (b1 : Below w.heap.size w w1) :
    WEnd w base b A L (.returned (.pointer (some ⟨b, 0, none⟩))) (w1.setCell ⟨b, 0, none⟩ (.slice A1 L.length c1)) := by
  obtain ⟨hb, hw, ho⟩ := h
  have hlt := hw.lt
  have hw1 := hw.below b1 hlt
  have hne : bl A1 ≠ some b := by
    intro e
    have := o1.block_lt b (by rw [ownBlock_bl]; exact e)
    omega
  refine ⟨A1, c1, rfl, ⟨hb, ?_, (o1.far (by rw [ownBlock_bl]; exact hne) _).base_le hbase⟩, ?_, ?_⟩
  · have := hw1.set_ 0 (.slice A1 L.length c1)
    simpa using this
  · exact (below_ch (S := fun k => k = b ∨ bl A = some k) b1).trans (Ch.set_ w1 ⟨b, 0, none⟩ _) (fun k _ e => .inl e)
  · intro g hg
    exact .inr (o1.block_lt g (by rw [ownBlock_bl]; exact hg)).1

theorem wnum_any (w : World) (base b : Nat) (A : Option Addr) (c : Nat) (l : List UInt8) (x : Nat) (h : Wr w base b A c l) (hbase : base ≤ w.heap.size) (hl : l.length ≤ 1000000) (hx : x < 18446744073709551616) :
    Calls Try.prog 100 #[.pointer (some ⟨b, 0, none⟩), .int .u64 x] w (WEnd w base b A (l ++ vput x)) := by
  have h0 := Lib.hid h
  obtain ⟨hb, hw, ho⟩ := h
  have hc : w.cell? ⟨b, 0, none⟩ = some (.slice A l.length c) := by rw [hw.cell]; rfl
  have hf := hw.free 0
  have hlt := hw.lt
  have CP := Lib.hid (put_any A l.length c w.heap.size x l w hl hx ho.rd (Nat.le_refl _))
  go_enter Try.func100, Try.ntmps100
  go_wp2_with fail
  refine (CP.out).mono ?_; rintro e w1 ⟨A1, c1, rfl, o1, b1⟩
  have hw1 := hw.below b1 hlt
  have hc1 : w1.cell? ⟨b, 0, none⟩ = some (.slice A l.length c) := by rw [hw1.cell]; rfl
  have hf1 := hw1.free 0
  generalize l ++ vput x = L at *
  go_wp2
  go_ret
  exact wr_put h0.out hbase o1 b1
/-- A string's bytes. -/
def sb (s : ByteArray) : List UInt8 := s.data.toList
theorem sb_length (s : ByteArray) : (sb s).length = s.size := by simp [sb]
theorem strCells_bv (s : ByteArray) : Go.Lib.strCells s = bv (sb s) := rfl
theorem wbytes_any (w : World) (base b : Nat) (A : Option Addr) (c : Nat) (l : List UInt8) (h : Wr w base b A c l) (hl : l.length ≤ 140737488355328) :
    Calls Try.prog 60 #[.pointer (some ⟨b, 0, none⟩)] w (NewB w l) := by
  obtain ⟨hb, hw, ho⟩ := h
  have hc : w.cell? ⟨b, 0, none⟩ = some (.slice A l.length c) := by rw [hw.cell]; rfl
  have hf := hw.free 0
  have CP := Lib.hid (clone_any A l.length c w.heap.size l w hl ho.rd (Nat.le_refl _))
  go_enter Try.func60, Try.ntmps60
  go_wp2_with fail
  refine (CP.out).mono ?_; rintro e w1 ⟨A1, c1, rfl, o1, b1⟩
  go_wp2
  go_ret
  exact ⟨A1, c1, rfl, o1, b1⟩
theorem wnum_nil (x : Int) (w : World) : Calls Try.prog 100 #[.pointer none, .int .u64 x] w fun e w' => e = .returned (.pointer none) ∧ w = w' := by
  go_enter Try.func100, Try.ntmps100
  go_wp2
  go_ret
  exact ⟨rfl, rfl⟩
theorem wbytes_nil (w : World) : Calls Try.prog 60 #[.pointer none] w fun e w' => e = .returned (.slice none 0 0) ∧ w = w' := by
  go_enter Try.func60, Try.ntmps60
  go_wp2
  go_ret
  exact ⟨rfl, rfl⟩
end Go.Proofs.Ytailbppddnegoaa
