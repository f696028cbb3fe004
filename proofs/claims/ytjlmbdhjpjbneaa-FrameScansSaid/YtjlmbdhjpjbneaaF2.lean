/- Layer 4 (frame): slices.Concat of three slices of bytes. -/
import Derived.Test.YtjlmbdhjpjbneaaF1
namespace Go.Proofs.Ytjlmbdhjpjbneaa
open Go.RowKit
set_option linter.unusedVariables false
set_option maxRecDepth 100000

def cat3 (l1 l2 l3 : List UInt8) (j : Nat) : List UInt8 := if j = 0 then [] else if j = 1 then l1 else if j = 2 then l1 ++ l2 else l1 ++ l2 ++ l3
set_option maxHeartbeats 2000000 in
theorem concat3_any (g : Nat) (A1 A2 A3 : Option Addr) (n1 n2 n3 c1 c2 c3 c : Nat) (l1 l2 l3 : List UInt8) (w : World)
    (h1 : w.cell? ⟨g, 0, none⟩ = some (.slice A1 n1 c1)) (h2 : w.cell? ⟨g, 1, none⟩ = some (.slice A2 n2 c2)) (h3 : w.cell? ⟨g, 2, none⟩ = some (.slice A3 n3 c3)) (hg : g < w.heap.size)
    (r1 : Rd w w.heap.size 1 A1 n1 (bv l1)) (r2 : Rd w w.heap.size 1 A2 n2 (bv l2)) (r3 : Rd w w.heap.size 1 A3 n3 (bv l3)) (hn1 : n1 ≤ 10000000) (hn2 : n2 ≤ 10000000) (hn3 : n3 ≤ 10000000) :
    Calls Try.prog 98 #[.slice (some ⟨g, 0, none⟩) 3 c] w (NewB w (l1 ++ l2 ++ l3)) := by
  obtain ⟨i0, hi, hz0, hz1, hz2⟩ := info_parts Try.info_by
  have e1 : l1.length = n1 := by have := r1.len; rwa [bv_length] at this
  have e2 : l2.length = n2 := by have := r2.len; rwa [bv_length] at this
  have e3 : l3.length = n3 := by have := r3.len; rwa [bv_length] at this
  have CG := Lib.hid (grow_any (n1 + n2 + n3) (by omega) w)
  go_enter Try.func98, Try.ntmps98
  go_wp2
  go_loop [3, 11] (fun s i => (i = .int .i64 0 ∧ s = .int .i64 0) ∨ (i = .int .i64 1 ∧ s = .int .i64 (n1 : Int)) ∨ (i = .int .i64 2 ∧ s = .int .i64 ((n1 + n2 : Nat) : Int)) ∨ (i = .int .i64 3 ∧ s = .int .i64 ((n1 + n2 + n3 : Nat) : Int))) (fun _ i => 3 - (intOf i).toNat)
  case atStart => exact .inl ⟨rfl, rfl⟩
  case round =>
    rcases hrel with ⟨rfl, rfl⟩ | ⟨rfl, rfl⟩ | ⟨rfl, rfl⟩ | ⟨rfl, rfl⟩
    · go_wp2
      go_round
      case rel => exact .inr (.inl ⟨rfl, by go_num⟩)
      case measure => simp [intOf]
    · go_wp2
      go_round
      case rel => exact .inr (.inr (.inl ⟨rfl, by go_num⟩))
      case measure => simp [intOf]
    · go_wp2
      go_round
      case rel => exact .inr (.inr (.inr ⟨rfl, by go_num⟩))
      case measure => simp [intOf]
    · go_wp2_with fail
      refine (CG.out).mono ?_; rintro e w1 ⟨A0, c0, rfl, o0, b0⟩
      go_wp2_with fail
      go_loopw [6, 27] (fun s i wr => ∃ (j : Nat) (A : Option Addr) (k : Nat), j ≤ 3 ∧ i = .int .i64 j ∧ s = .slice A (cat3 l1 l2 l3 j).length k ∧ Own wr w.heap.size 5 1 A (cat3 l1 l2 l3 j).length k (bv (cat3 l1 l2 l3 j)) ∧ Below w.heap.size w wr) (fun _ i _ => 3 - (intOf i).toNat)
      case atStart => exact ⟨0, A0, c0, by omega, rfl, rfl, o0, b0⟩
      case round =>
        obtain ⟨j, A, k, hj, rfl, rfl, ho, hb⟩ := hrel
        have q1 : wr.cell? ⟨g, 0, none⟩ = some (.slice A1 n1 c1) := by rw [hb.cell (by simpa using hg)]; exact h1
        have q2 : wr.cell? ⟨g, 1, none⟩ = some (.slice A2 n2 c2) := by rw [hb.cell (by simpa using hg)]; exact h2
        have q3 : wr.cell? ⟨g, 2, none⟩ = some (.slice A3 n3 c3) := by rw [hb.cell (by simpa using hg)]; exact h3
        have hbs := hb.size
        have hO := Lib.hid ho
        have hj4 : j = 0 ∨ j = 1 ∨ j = 2 ∨ j = 3 := by omega
        rcases hj4 with rfl | rfl | rfl | rfl
        · have el : (cat3 l1 l2 l3 0) = [] := rfl
          have en : (cat3 l1 l2 l3 1) = l1 := rfl
          rw [el] at hO ⊢
          clear ho
          go_wp2_with (
            at_builtin
            refine wpList_append_rd _ rfl (.tmp 31) (.tmp 32) 62 rfl w.heap.size 5 i0 (.int .u8 0) 1 1 Try.underlying62 hi hz0 hz1 hz2 rfl (by decide) (by decide) A 0 k (bv []) rfl hO.out w.heap.size A1 n1 c1 (bv l1) rfl (r1.below hb) (bv_oneCell _) (by omega) (by omega) ?_
            intro A6 c6 w6 o6 b6
            rw [← bv_append] at o6)
          go_roundw
          case rel => exact ⟨1, A6, c6, by omega, rfl, by rw [en, e1], by rw [en, e1]; simpa using o6, hb.trans b6⟩
          case measure => simp [intOf]
        · have el : (cat3 l1 l2 l3 1) = l1 := rfl
          have en : (cat3 l1 l2 l3 2) = l1 ++ l2 := rfl
          rw [el] at hO ⊢
          clear ho
          go_wp2_with (
            at_builtin
            refine wpList_append_rd _ rfl (.tmp 31) (.tmp 32) 62 rfl w.heap.size 5 i0 (.int .u8 0) 1 1 Try.underlying62 hi hz0 hz1 hz2 rfl (by decide) (by decide) A l1.length k (bv l1) rfl hO.out w.heap.size A2 n2 c2 (bv l2) rfl (r2.below hb) (bv_oneCell _) (by omega) (by omega) ?_
            intro A6 c6 w6 o6 b6
            rw [← bv_append] at o6)
          go_roundw
          case rel => exact ⟨2, A6, c6, by omega, rfl, by rw [en, List.length_append, e1, e2], by rw [en, List.length_append, e2]; exact o6, hb.trans b6⟩
          case measure => simp [intOf]
        · have el : (cat3 l1 l2 l3 2) = l1 ++ l2 := rfl
          have en : (cat3 l1 l2 l3 3) = l1 ++ l2 ++ l3 := rfl
          rw [el] at hO ⊢
          clear ho
          have e12 : (l1 ++ l2).length = n1 + n2 := by rw [List.length_append, e1, e2]
          generalize l1 ++ l2 = l12 at *
          go_wp2_with (
            at_builtin
            refine wpList_append_rd _ rfl (.tmp 31) (.tmp 32) 62 rfl w.heap.size 5 i0 (.int .u8 0) 1 1 Try.underlying62 hi hz0 hz1 hz2 rfl (by decide) (by decide) A l12.length k (bv l12) rfl hO.out w.heap.size A3 n3 c3 (bv l3) rfl (r3.below hb) (bv_oneCell _) (by omega) (by omega) ?_
            intro A6 c6 w6 o6 b6
            rw [← bv_append] at o6)
          go_roundw
          case rel => exact ⟨3, A6, c6, by omega, rfl, by rw [en, List.length_append, e12, e3], by rw [en, List.length_append, e3]; exact o6, hb.trans b6⟩
          case measure => simp [intOf]
        · have el : (cat3 l1 l2 l3 3) = l1 ++ l2 ++ l3 := rfl
          rw [el] at hO ⊢
          clear ho
          generalize l1 ++ l2 ++ l3 = l123 at *
          go_wp2
          go_ret
          exact ⟨A, k, rfl, hO.out, hb⟩
end Go.Proofs.Ytjlmbdhjpjbneaa
