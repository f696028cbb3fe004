/- Layer 4 (frame): Put, Size, the document's Put. -/
import Derived.Test.YtjlmbdhjpjbneaaF2
import Derived.Test.YtjlmbdhjpjbneaaC1
import Derived.Test.YtjlmbdhjpjbneaaB3
namespace Go.Proofs.Ytjlmbdhjpjbneaa
open Go.RowKit
set_option linter.unusedVariables false
set_option maxRecDepth 100000

/-- A body's frame. -/
def frm (l : List UInt8) : List UInt8 := vput l.length ++ l ++ leB (crcN l) 4
set_option maxHeartbeats 1000000 in
theorem fput_any (A A' : Option Addr) (n m c c' : Nat) (lb l : List UInt8) (w : World) (hr : Rd w w.heap.size 1 A n (bv lb)) (hr' : Rd w w.heap.size 1 A' m (bv l)) (hn : n ≤ 1000000) (hm : m ≤ 1000000) :
    Calls Try.prog 54 #[.slice A n c, .slice A' m c'] w (NewBytes2 w (lb ++ frm l) 0) := by
  have el : l.length = m := by have := hr'.len; rwa [bv_length] at this
  have elb : lb.length = n := by have := hr.len; rwa [bv_length] at this
  have hcl := crcN_lt l
  have C1 := Lib.hid (sum_any A' m c' w.heap.size l w (by omega) hr' (Nat.le_refl _))
  have C2 := Lib.hid (fun w => bytes_any (crcN l) 4 (by omega) (by omega) (by omega) (by omega) w)
  have C3 := Lib.hid (fun w h hB => put_any A n c w.heap.size m lb w hn (by omega) h hB)
  have y1 : IntKind.u64.wrap (m : Int) = (m : Int) := by rw [IntKind.wrap_u64]; omega
  have y2 : (m : Int) % 18446744073709551616 = (m : Int) := by omega
  have lv := vput_le (x := m) (by omega)
  have l4 : (leB (crcN l) 4).length = 4 := leB_length _ _
  have hE : lb ++ frm l = lb ++ vput m ++ l ++ leB (crcN l) 4 := by unfold frm; rw [el]; simp
  rw [hE]
  clear hE
  generalize crcN l = X at *
  generalize leB X 4 = S4 at *
  generalize hL : lb ++ vput m ++ l ++ S4 = LL
  have HL := Lib.hid hL
  have L4 := Lib.hid l4
  clear hL l4
  go_enter Try.func54, Try.ntmps54
  go_wp2_with fail
  refine (C1.out).mono ?_; rintro e w1 ⟨rfl, b1⟩
  go_wp2_with fail
  refine (C2.out _).mono ?_; rintro e w2 ⟨As, cs, rfl, o2, b2⟩
  have b12 := below_step b1 b2
  have hz2 := b12.size
  have rb2 := (hr.below b12).more hz2
  have C3' := Lib.hid (C3.out w2 rb2 (Nat.le_refl _))
  have O2 := Lib.hid o2.rd
  have B2 := Lib.hid b12
  clear b1 b2 b12 o2 C1 C2 C3 rb2
  go_wp2_with fail
  refine (C3'.out).mono ?_; rintro e w3 ⟨Ap, cp, rfl, o3, b3⟩
  have hz3 := b3.size
  have hb4 := (below_step B2.out b3).alloc (by omega) (.cells #[.slice Ap (lb ++ vput m).length cp, .slice A' m c', .slice As S4.length cs] 62)
  have hW := Whole.new w3 62 #[.slice Ap (lb ++ vput m).length cp, .slice A' m c', .slice As S4.length cs]
  have q1 := (o3.rd.alloc (Nat.le_refl _) (.cells #[.slice Ap (lb ++ vput m).length cp, .slice A' m c', .slice As S4.length cs] 62)).more (B' := (w3.alloc (.cells #[.slice Ap (lb ++ vput m).length cp, .slice A' m c', .slice As S4.length cs] 62)).heap.size) (by simp)
  have q2 := (hr'.below hb4).more hb4.size
  have q3 := ((O2.out.below b3).alloc hz3 (.cells #[.slice Ap (lb ++ vput m).length cp, .slice A' m c', .slice As S4.length cs] 62)).more (B' := (w3.alloc (.cells #[.slice Ap (lb ++ vput m).length cp, .slice A' m c', .slice As S4.length cs] 62)).heap.size) (by simp; omega)
  have CC' := (concat3_any w3.heap.size Ap A' As (lb ++ vput m).length m S4.length cp c' cs 3 (lb ++ vput m) l S4 _ (by rw [hW.cell]; rfl) (by rw [hW.cell]; rfl) (by rw [hW.cell]; rfl) hW.lt q1 q2 q3 (by simp; omega) (by omega) (by have := L4.out; omega))
  rw [HL.out] at CC'
  have CC := Lib.hid CC'
  clear CC'
  have HB4 := Lib.hid hb4
  clear hW q1 q2 q3 o3 b3 hb4 O2 B2 C3'
  generalize lb ++ vput m = LV at *
  clear HL
  go_wp2_with fail
  refine (CC.out).mono ?_; rintro e w5 ⟨Ax, cx, rfl, o5, b5⟩
  have hB5 := below_step HB4.out b5
  have hz4 := HB4.out.size
  go_wp2
  go_ret2
  exact ⟨Ax, cx, rfl, o5.base_le (by omega), hB5⟩
end Go.Proofs.Ytjlmbdhjpjbneaa
