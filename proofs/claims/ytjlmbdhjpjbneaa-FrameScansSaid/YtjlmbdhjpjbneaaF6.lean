/- Layer 4 (frame): the document's Get; One. -/
import Derived.Test.YtjlmbdhjpjbneaaF5
import Derived.Deep.QuietTactic
import Derived.BigQuiet
namespace Go.Proofs.Ytjlmbdhjpjbneaa
open Go.RowKit
set_option linter.unusedVariables false
set_option maxRecDepth 100000

theorem quietF {P : Program} {f : FuncId} {args : Array Value} {w : World} {n : Nat} {v : Value}
    (h : Calls P f args (w.drewN n) fun e w' => e = .returned v ∧ w.drewN n = w') : Calls P f args (w.drewN n) fun e w'' => e = .returned v ∧ ∃ m, w'' = w.drewN m :=
  h.mono fun _ _ ⟨he, hm⟩ => ⟨he, n, hm.symm⟩
set_option maxHeartbeats 2000000 in
theorem rfget_any (A : Option Addr) (n c : Nat) (l : List UInt8) (w : World) (hr : Rd w w.heap.size 1 A n (bv l)) (hn : n ≤ 100000) (hnc : n ≤ c) (hcm : c ≤ maxLen) :
    Calls Try.prog 59 #[.slice A n c] w (GE w (fG l)) := by
  have el : l.length = n := by have := hr.len; rwa [bv_length] at this
  have hcm' : c ≤ 9223372036854775807 := hcm
  have C1 := Lib.hid (rget_any A n c w.heap.size l w (by omega) hr)
  rcases vget_err l 0 0 with ⟨x, k, hv⟩ | hv | hv
  · obtain ⟨hx, hk, r, hlr⟩ := vget_only l x k hv
    have hkn : k ≤ n := by rw [hk, ← el, hlr, List.length_append]; omega
    have hd : getV (vget 0 0 l) = .tuple #[.int .u64 (x : Int), .int .i64 (k : Int), .int .i64 0] := by rw [hv]; rfl
    rw [hd] at C1
    have hG : fG l = if 1048576 < x then ([], 0, 3) else if n < k + x + 4 then ([], 0, 2) else if ofLe ((l.drop (k + x)).take 4) ≠ crcN ((l.drop k).take x) then ([], 0, 5) else ((l.drop k).take x, k + x + 4, 0) := by
      unfold fG
      rw [hv, el]
      simp
    rw [hG]
    clear hd hv hlr hk hG
    by_cases g1 : 1048576 < x
    · rw [if_pos g1]
      have t1 : decide ((1048576 : Int) < (x : Int)) = true := by simp; omega
      go_enter Try.func59, Try.ntmps59
      go_wp2_with fail
      refine (C1.out).mono ?_; rintro e w1 ⟨rfl, rfl⟩
      go_wp2
      go_ret3
      exact ⟨none, 0, rfl, Own.nil_, Below.refl _ _⟩
    · rw [if_neg g1]
      have t1 : ¬ ((1048576 : Int) < (x : Int)) := by omega
      have w1' : IntKind.i64.wrap (x : Int) = (x : Int) := IntWalk.i64_in _ (by omega)
      by_cases g2 : n < k + x + 4
      · rw [if_pos g2]
        have t2 : (n : Int) < (k : Int) + (x : Int) + 4 := by omega
        go_enter Try.func59, Try.ntmps59
        go_wp2_with fail
        refine (C1.out).mono ?_; rintro e w1 ⟨rfl, rfl⟩
        go_wp2
        go_ret3
        exact ⟨none, 0, rfl, Own.nil_, Below.refl _ _⟩
      · rw [if_neg g2]
        have t2 : ¬ ((n : Int) < (k : Int) + (x : Int) + 4) := by omega
        have hs1 : ∀ w, (sizeOf (Try.prog.elem 62)).run Try.prog w = .ok 1 w := fun w => by kernel_rfl
        have ekx : ((k + x : Nat) : Int) = (k : Int) + (x : Int) := by omega
        have ekx4 : ((k + x + 4 : Nat) : Int) = (k : Int) + (x : Int) + 4 := by omega
        have ex1 : k + x - k = x := by omega
        have ex2 : k + x + 4 - (k + x) = 4 := by omega
        have hm3 := fun w => run_mid (P := Try.prog) 62 (by kernel_rfl) hs1 A n c k (k + x) (by omega) (by omega) w
        have hm := fun w => run_mid (P := Try.prog) 62 (by kernel_rfl) hs1 A n c (k + x) (k + x + 4) (by omega) (by omega) w
        rw [ekx, ex1] at hm3
        rw [ekx, ekx4, ex2] at hm
        have rb : Rd w w.heap.size 1 (cutA A c k) x (bv ((l.drop k).take x)) := by
          have := hr.mid (l := k) (h := k + x) (by omega) (by omega) hnc
          rw [ex1, ← bv_drop, ← bv_take] at this
          exact this
        have rs : Rd w w.heap.size 1 (cutA A c (k + x)) 4 (bv ((l.drop (k + x)).take 4)) := by
          have := hr.mid (l := k + x) (h := k + x + 4) (by omega) (by omega) hnc
          rw [ex2, ← bv_drop, ← bv_take] at this
          exact this
        have C2 := Lib.hid (fun cc q => rnumber_any (cutA A c (k + x)) 4 cc w.heap.size _ (w.drewN q) (by omega) (rs.drewN q))
        have C3 := Lib.hid (fun cc q => rsum_any (cutA A c k) x cc w.heap.size _ (w.drewN q) (by omega) (rb.drewN q))
        have lb : ((l.drop k).take x).length = x := by rw [List.length_take, List.length_drop]; omega
        have hO : ofLe ((l.drop (k + x)).take 4) < 4294967296 := by
          have := ofLe_lt ((l.drop (k + x)).take 4)
          rw [List.length_take, List.length_drop, show min 4 (l.length - (k + x)) = 4 by omega] at this
          exact this
        have hX := crcN_lt ((l.drop k).take x)
        have RB := Lib.hid rb
        clear rs ekx ekx4 ex1 ex2 rb
        generalize ofLe ((l.drop (k + x)).take 4) = O at *
        generalize (l.drop k).take x = body at *
        generalize hcX : crcN body = X at *
        generalize cutA A c k = AB at *
        generalize cutA A c (k + x) = AS at *
        have z1 : (O : Int) % 4294967296 = (O : Int) := by omega
        obtain ⟨i0, hi, hz0, hz1, hz2⟩ := info_parts Try.info_by
        by_cases g3 : O = X
        · rw [if_neg (by simp [g3])]
          have t3 : ((O : Int) != (X : Int)) = false := by simp [g3]
          clear g3 hcX
          go_enter Try.func59, Try.ntmps59
          go_wp2_with fail
          refine (C1.out).mono ?_; rintro e w1 ⟨rfl, rfl⟩
          go_wp2_with fail
          go_quiet ((first | (go_at_call 106; with_reducible exact quietF (C2.out _ _)) | (go_at_call 101; with_reducible exact quietF (C3.out _ _))))
          have rq := RB.out.drewN nq
          have HQ := Lib.hid (show (w.drewN nq).heap.size = w.heap.size from rfl)
          have bq := Lib.hid (below_drewN (Below.refl w.heap.size w) nq)
          generalize w.drewN nq = wq at *
          have bqa := Lib.hid (bq.out.alloc (by have := HQ.out; omega) (.cells #[] 5))
          have rqa := rq.alloc (by have := HQ.out; omega) (.cells #[] 5)
          go_wp2_with (
            at_builtin
            refine wpList_append_rd _ rfl (.tmp 42) (.tmp 46) 62 rfl wq.heap.size 5 i0 (.int .u8 0) 1 1 Try.underlying62 hi hz0 hz1 hz2 rfl (by decide) (by decide) _ 0 0 [] rfl (own_e0 _ _) w.heap.size AB x (c - k) (bv body) rfl rqa (bv_oneCell _) (by omega) (by simp) ?_
            intro A5 c5 w5 o5 b5
            simp only [Nat.zero_add, List.nil_append] at o5 ⊢)
          go_ret3
          rw [HQ.out] at o5 b5
          refine ⟨A5, c5, ?_, by rw [lb]; exact o5, bqa.out.trans b5⟩
          simp [lb]
        · rw [if_pos g3]
          have t3 : ((O : Int) != (X : Int)) = true := by simp; omega
          go_enter Try.func59, Try.ntmps59
          go_wp2_with fail
          refine (C1.out).mono ?_; rintro e w1 ⟨rfl, rfl⟩
          go_wp2_with fail
          go_quiet ((first | (go_at_call 106; with_reducible exact quietF (C2.out _ _)) | (go_at_call 101; with_reducible exact quietF (C3.out _ _))))
          have bq := Lib.hid (below_drewN (Below.refl w.heap.size w) nq)
          go_wp2
          go_ret3
          exact ⟨none, 0, rfl, Own.nil_, bq.out⟩
  all_goals
    have hG : fG l = ([], 0, (vget 0 0 l).2.2) := by simp [fG, hv]
    rw [hG]
    rw [hv] at C1 ⊢
    simp only [getV] at C1
    clear hG hv
    go_enter Try.func59, Try.ntmps59
    go_wp2_with fail
    refine (C1.out).mono ?_; rintro e w1 ⟨rfl, rfl⟩
    go_wp2
    go_ret3
    exact ⟨none, 0, rfl, Own.nil_, Below.refl _ _⟩
/-- What One says. -/
def f1 (l : List UInt8) : List UInt8 × Int := if (fG l).2.2 ≠ 0 then ([], (fG l).2.2) else if (fG l).2.1 < l.length then ([], 1) else ((fG l).1, 0)
def OE (w : World) (r : List UInt8 × Int) (e : Ending) (w' : World) : Prop :=
  ∃ A c, e = .returned (.tuple #[.slice A r.1.length c, .int .i64 r.2]) ∧ Own w' w.heap.size 5 1 A r.1.length c (bv r.1) ∧ Below w.heap.size w w'
theorem fone_any (A : Option Addr) (n c : Nat) (l : List UInt8) (w : World) (hr : Rd w w.heap.size 1 A n (bv l)) (hn : n ≤ 100000) (hnc : n ≤ c) (hcm : c ≤ maxLen) :
    Calls Try.prog 58 #[.slice A n c] w (OE w (f1 l)) := by
  have el : l.length = n := by have := hr.len; rwa [bv_length] at this
  have C1 := Lib.hid (fget_any A n c l w hr hn hnc hcm)
  unfold f1
  rw [el]
  generalize fG l = R at *
  obtain ⟨body, m, er⟩ := R
  simp only at *
  by_cases h1 : er = 0
  · subst h1
    rw [if_neg (by simp)]
    by_cases h2 : m < n
    · rw [if_pos h2]
      have t2 : (m : Int) < (n : Int) := by omega
      go_enter Try.func58, Try.ntmps58
      go_wp2_with fail
      refine (C1.out).mono ?_; rintro e w1 ⟨A1, c1, rfl, o1, b1⟩
      go_wp2
      go_ret2
      exact ⟨none, 0, rfl, Own.nil_, b1⟩
    · rw [if_neg h2]
      have t2 : ¬ ((m : Int) < (n : Int)) := by omega
      go_enter Try.func58, Try.ntmps58
      go_wp2_with fail
      refine (C1.out).mono ?_; rintro e w1 ⟨A1, c1, rfl, o1, b1⟩
      go_wp2
      go_ret2
      exact ⟨A1, c1, rfl, o1, b1⟩
  · rw [if_pos h1]
    have t1 : (er != 0) = true := by simp [h1]
    go_enter Try.func58, Try.ntmps58
    go_wp2_with fail
    refine (C1.out).mono ?_; rintro e w1 ⟨A1, c1, rfl, o1, b1⟩
    go_wp2
    go_ret2
    exact ⟨none, 0, rfl, Own.nil_, b1⟩
end Go.Proofs.Ytjlmbdhjpjbneaa
