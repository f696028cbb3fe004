/- Layer 4 (frame): Get. -/
import Derived.Test.YtjlmbdhjpjbneaaF4
import Derived.Test.YtjlmbdhjpjbneaaV2
import Derived.Test.YtjlmbdhjpjbneaaB5
namespace Go.Proofs.Ytjlmbdhjpjbneaa
open Go.RowKit
set_option linter.unusedVariables false
set_option maxRecDepth 100000

/-- The frame that bytes begin with: the body, how many bytes, the error. -/
def fG (l : List UInt8) : List UInt8 × Nat × Int :=
  if (vget 0 0 l).2.2 ≠ 0 then ([], 0, (vget 0 0 l).2.2)
  else if 1048576 < (vget 0 0 l).1 then ([], 0, 3)
  else if l.length < (vget 0 0 l).2.1 + (vget 0 0 l).1 + 4 then ([], 0, 2)
  else if ofLe ((l.drop ((vget 0 0 l).2.1 + (vget 0 0 l).1)).take 4) ≠ crcN ((l.drop (vget 0 0 l).2.1).take (vget 0 0 l).1) then ([], 0, 5)
  else ((l.drop (vget 0 0 l).2.1).take (vget 0 0 l).1, (vget 0 0 l).2.1 + (vget 0 0 l).1 + 4, 0)
def GE (w : World) (r : List UInt8 × Nat × Int) (e : Ending) (w' : World) : Prop :=
  ∃ A c, e = .returned (.tuple #[.slice A r.1.length c, .int .i64 (r.2.1 : Int), .int .i64 r.2.2]) ∧ Own w' w.heap.size 5 1 A r.1.length c (bv r.1) ∧ Below w.heap.size w w'
set_option maxHeartbeats 2000000 in
theorem fget_any (A : Option Addr) (n c : Nat) (l : List UInt8) (w : World) (hr : Rd w w.heap.size 1 A n (bv l)) (hn : n ≤ 100000) (hnc : n ≤ c) (hcm : c ≤ maxLen) :
    Calls Try.prog 57 #[.slice A n c] w (GE w (fG l)) := by
  have el : l.length = n := by have := hr.len; rwa [bv_length] at this
  have hcm' : c ≤ 9223372036854775807 := hcm
  have C1 := Lib.hid (get_any A n c w.heap.size l w (by omega) hr)
  rcases vget_err l 0 0 with ⟨x, k, hv⟩ | hv | hv
  · obtain ⟨hx, hk, r, hlr⟩ := vget_only l x k hv
    have hkn : k ≤ n := by rw [hk, ← el, hlr, List.length_append]; omega
    have hd : getV (vget 0 0 l) = .tuple #[.int .u64 (x : Int), .int .i64 (k : Int), .int .i64 0] := by rw [hv]; rfl
    rw [hd] at C1
    have hG : fG l = if 1048576 < x then ([], 0, 3) else if n < k + x + 4 then ([], 0, 2) else if ofLe ((l.drop (k + x)).take 4) ≠ crcN ((l.drop k).take x) then ([], 0, 5) else ((l.drop k).take x, k + x + 4, 0) := by
      unfold fG
      rw [hv, el]
      simp
    rw [hG]
    clear hd hv hlr hk hG
    by_cases g1 : 1048576 < x
    · rw [if_pos g1]
      have t1 : decide ((1048576 : Int) < (x : Int)) = true := by simp; omega
      go_enter Try.func57, Try.ntmps57
      go_wp2_with fail
      refine (C1.out).mono ?_; rintro e w1 ⟨rfl, rfl⟩
      go_wp2
      go_ret3
      exact ⟨none, 0, rfl, Own.nil_, Below.refl _ _⟩
    · rw [if_neg g1]
      have t1 : ¬ ((1048576 : Int) < (x : Int)) := by omega
      have w1' : IntKind.i64.wrap (x : Int) = (x : Int) := IntWalk.i64_in _ (by omega)
      by_cases g2 : n < k + x + 4
      · rw [if_pos g2]
        have t2 : (n : Int) - (k : Int) - 4 < (x : Int) := by omega
        go_enter Try.func57, Try.ntmps57
        go_wp2_with fail
        refine (C1.out).mono ?_; rintro e w1 ⟨rfl, rfl⟩
        go_wp2
        go_ret3
        exact ⟨none, 0, rfl, Own.nil_, Below.refl _ _⟩
      · rw [if_neg g2]
        have t2 : ¬ ((n : Int) - (k : Int) - 4 < (x : Int)) := by omega
        have hs1 : ∀ w, (sizeOf (Try.prog.elem 62)).run Try.prog w = .ok 1 w := fun w => by kernel_rfl
        have ekx : ((k + x : Nat) : Int) = (k : Int) + (x : Int) := by omega
        have ekx4 : ((k + x + 4 : Nat) : Int) = (k : Int) + (x : Int) + 4 := by omega
        have ex1 : k + x - k = x := by omega
        have ex2 : k + x + 4 - (k + x) = 4 := by omega
        have hm3 := fun w => run_mid3 (P := Try.prog) 62 (by kernel_rfl) hs1 A n c k (k + x) (k + x) (by omega) (by omega) (by omega) w
        have hm := fun w => run_mid (P := Try.prog) 62 (by kernel_rfl) hs1 A n c (k + x) (k + x + 4) (by omega) (by omega) w
        rw [ekx, ex1] at hm3
        rw [ekx, ekx4, ex2] at hm
        have rb : Rd w w.heap.size 1 (cutA A (k + x) k) x (bv ((l.drop k).take x)) := by
          have := (hr.front (k := k + x) (by omega)).cutA_ (k := k) (c := k + x) (by omega) (Nat.le_refl _)
          rw [ex1, ← bv_take, ← bv_drop, List.drop_take, ex1] at this
          exact this
        have rs : Rd w w.heap.size 1 (cutA A c (k + x)) 4 (bv ((l.drop (k + x)).take 4)) := by
          have := hr.mid (l := k + x) (h := k + x + 4) (by omega) (by omega) hnc
          rw [ex2, ← bv_drop, ← bv_take] at this
          exact this
        have C2 := Lib.hid (fun cc => number_any (cutA A c (k + x)) 4 cc w.heap.size _ w (by omega) (by omega) rs)
        have C3 := Lib.hid (fun cc => sum_any (cutA A (k + x) k) x cc w.heap.size _ w (by omega) rb (Nat.le_refl _))
        have lb : ((l.drop k).take x).length = x := by rw [List.length_take, List.length_drop]; omega
        have hO : ofLe ((l.drop (k + x)).take 4) < 4294967296 := by
          have := ofLe_lt ((l.drop (k + x)).take 4)
          rw [List.length_take, List.length_drop, show min 4 (l.length - (k + x)) = 4 by omega] at this
          exact this
        have hX := crcN_lt ((l.drop k).take x)
        have RB := Lib.hid rb
        clear rs ekx ekx4 ex1 ex2 rb
        generalize ofLe ((l.drop (k + x)).take 4) = O at *
        generalize (l.drop k).take x = body at *
        generalize hcX : crcN body = X at *
        generalize cutA A (k + x) k = AB at *
        generalize cutA A c (k + x) = AS at *
        have z1 : (O : Int) % 4294967296 = (O : Int) := by omega
        by_cases g3 : O = X
        · rw [if_neg (by simp [g3])]
          have t3 : ((O : Int) != (X : Int)) = false := by simp [g3]
          have CC := Lib.hid (fun cc (w1 : World) h => clone_any AB x cc w1.heap.size body w1 (by omega) h (Nat.le_refl _))
          clear g3 hcX
          go_enter Try.func57, Try.ntmps57
          go_wp2_with fail
          refine (C1.out).mono ?_; rintro e w1 ⟨rfl, rfl⟩
          go_wp2_with fail
          refine (C2.out _).mono ?_; rintro e w1 ⟨rfl, rfl⟩
          go_wp2_with fail
          refine (C3.out _).mono ?_; rintro e w1 ⟨rfl, b1⟩
          have rb1 := (RB.out.below b1).more b1.size
          go_wp2_with fail
          refine (CC.out _ _ rb1).mono ?_; rintro e w2 ⟨A2, c2, rfl, o2, b2⟩
          go_wp2
          go_ret3
          refine ⟨A2, c2, ?_, o2.base_le b1.size, below_step b1 b2⟩
          first | rfl | (simp; omega)
        · rw [if_pos g3]
          have t3 : ((O : Int) != (X : Int)) = true := by simp; omega
          go_enter Try.func57, Try.ntmps57
          go_wp2_with fail
          refine (C1.out).mono ?_; rintro e w1 ⟨rfl, rfl⟩
          go_wp2_with fail
          refine (C2.out _).mono ?_; rintro e w1 ⟨rfl, rfl⟩
          go_wp2_with fail
          refine (C3.out _).mono ?_; rintro e w1 ⟨rfl, b1⟩
          go_wp2
          go_ret3
          exact ⟨none, 0, rfl, Own.nil_, b1⟩
  all_goals
    have hG : fG l = ([], 0, (vget 0 0 l).2.2) := by simp [fG, hv]
    rw [hG]
    rw [hv] at C1 ⊢
    simp only [getV] at C1
    clear hG hv
    go_enter Try.func57, Try.ntmps57
    go_wp2_with fail
    refine (C1.out).mono ?_; rintro e w1 ⟨rfl, rfl⟩
    go_wp2
    go_ret3
    exact ⟨none, 0, rfl, Own.nil_, Below.refl _ _⟩
end Go.Proofs.Ytjlmbdhjpjbneaa
