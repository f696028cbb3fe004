/- Numbers' texts: ascii.up, ascii.Text; the document's Text. -/
import Derived.Test.YtailbppddnegoaaW5
import Derived.Test.YtailbppddnegoaaRows
import Derived.Laws.BytesString
import Derived.Laws.Concat
import Derived.IntWalk
namespace Go.Proofs.Ytailbppddnegoaa
open Go.RowKit
set_option linter.unusedVariables false
set_option maxRecDepth 100000

/-- The string of these bytes. -/
def bs (l : List UInt8) : ByteArray := ⟨l.toArray⟩
theorem bs_size (l : List UInt8) : (bs l).size = l.length := rfl
theorem bs_append (a b : List UInt8) : bs a ++ bs b = bs (a ++ b) := by
  apply ByteArray.ext
  simp [bs, ByteArray.data_append]
theorem cat_any {P : Program} (a b : List UInt8) (h : a.length + b.length ≤ 9223372036854775807) (w : World) : (Op.stringOp .add (bs a) (bs b)).run P w = .ok (.string (bs (a ++ b))) w := by
  rw [run_string_add_sum w (bs a) (bs b) (by simpa [bs_size] using h), bs_append]
/-- A number's digits. -/
def digL (n : Nat) : List UInt8 := if n < 10 then [UInt8.ofNat (48 + n)] else digL (n / 10) ++ [UInt8.ofNat (48 + n % 10)]
termination_by n
theorem digL_small {n : Nat} (h : n < 10) : digL n = [UInt8.ofNat (48 + n)] := by rw [digL, if_pos h]
theorem digL_big {n : Nat} (h : 10 ≤ n) : digL n = digL (n / 10) ++ [UInt8.ofNat (48 + n % 10)] := by rw [digL, if_neg (by omega)]
theorem digL_le (n : Nat) : (digL n).length ≤ n + 1 := by
  induction n using Nat.strongRecOn with
  | ind n ih =>
    by_cases h : n < 10
    · rw [digL_small h]; simp
    · rw [digL_big (by omega)]
      have := ih (n / 10) (by omega)
      simp
      omega
theorem digL_len (k n : Nat) (h : n < 10 ^ (k + 1)) : (digL n).length ≤ k + 1 := by
  induction k generalizing n with
  | zero => rw [digL_small (by simpa using h)]; simp
  | succ k ih =>
    by_cases h10 : n < 10
    · rw [digL_small h10]; simp
    · rw [digL_big (by omega)]
      have := ih (n / 10) (by rw [Nat.pow_succ] at h; omega)
      simp
      omega
theorem digL_20 (n : Nat) (h : n < 18446744073709551616) : (digL n).length ≤ 20 := digL_len 19 n (by omega)
/-- 'string([]byte{x})'. -/
theorem conv1 (x : Int) (k : Nat) (hk : x.toNat = k) (w : World) : (convert 78 9 (.slice (some ⟨w.heap.size, 0, none⟩) 1 1)).run Try.prog (w.alloc (.cells #[.int .u8 x] 5)) = .ok (.string (bs [UInt8.ofNat k])) (w.alloc (.cells #[.int .u8 x] 5)) := by
  rw [run_convert_bytes_string _ _ _ 5 _ _ _ Try.underlying78 Try.underlying5 Try.underlying9]
  have hc : (w.alloc (.cells #[.int .u8 x] 5)).cell? ⟨w.heap.size, 0, none⟩ = some (.int .u8 x) := by rw [(Whole.new w 5 #[.int .u8 x]).cell]; rfl
  subst hk
  rw [run_bytesToString _ _ 1 1 [x]]
  · rfl
  · simp [loadCells, loadCellsFrom, go_sem, hc]
theorem up_any (n : Nat) (hn : n < 18446744073709551616) (w : World) : Calls Try.prog 129 #[.int .u64 n] w fun e w' => e = .returned (.string (bs (digL n))) ∧ Below w.heap.size w w' := by
  induction n using Nat.strongRecOn generalizing w with
  | ind n ih =>
    have hcv := conv1 (48 + (n : Int) % 10) (48 + n % 10) (by omega) w
    have hd2 : IntKind.u64.wrap (48 + (n : Int) % 10) = 48 + (n : Int) % 10 := by rw [IntKind.wrap_u64]; omega
    have hb0 : Below w.heap.size w (w.alloc (.cells #[.int .u8 (48 + (n : Int) % 10)] 5)) := (Below.refl _ _).alloc (Nat.le_refl _) _
    have HB := Lib.hid hb0
    clear hb0
    by_cases h : n < 10
    · have t1 : decide ((n : Int) < 10) = true := by simp; omega
      have t2 : decide (n < 10) = true := by simp; omega
      rw [digL_small h]
      have hm : n % 10 = n := Nat.mod_eq_of_lt h
      rw [hm] at hcv
      generalize bs [UInt8.ofNat (48 + n)] = R at *
      clear ih hm
      go_enter Try.func129, Try.ntmps129
      go_wp2
      go_ret
      exact ⟨rfl, HB.out⟩
    · have C1 := Lib.hid (ih (n / 10) (by omega) (by omega))
      have hlen := digL_20 (n / 10) (by omega)
      have hct := fun w => cat_any (P := Try.prog) (digL (n / 10)) [UInt8.ofNat (48 + n % 10)] (by simp; omega) w
      have t1 : decide ((n : Int) < 10) = false := by simp; omega
      have t2 : decide (n < 10) = false := by simp; omega
      rw [digL_big (by omega)]
      generalize bs (digL (n / 10) ++ [UInt8.ofNat (48 + n % 10)]) = R3 at *
      generalize bs (digL (n / 10)) = R2 at *
      generalize bs [UInt8.ofNat (48 + n % 10)] = R1 at *
      clear ih hlen
      go_enter Try.func129, Try.ntmps129
      go_wp2_with fail
      refine (C1.out _).mono ?_; rintro e w1 ⟨rfl, b1⟩
      go_wp2
      go_ret
      exact ⟨rfl, below_step HB.out b1⟩
/-- A whole number's text. -/
def txtL (n : Int) : List UInt8 := if n < 0 then 45 :: digL n.natAbs else digL n.toNat
theorem text_any (n : Int) (h : -9223372036854775808 ≤ n) (h' : n ≤ 9223372036854775807) (w : World) : Calls Try.prog 116 #[.int .i64 n] w fun e w' => e = .returned (.string (bs (txtL n))) ∧ Below w.heap.size w w' := by
  unfold txtL
  by_cases hn : n < 0
  · rw [if_pos hn]
    have t1 : decide (n < 0) = true := decide_eq_true hn
    have C1 := Lib.hid (fun w => up_any n.natAbs (by omega) w)
    have hlen := digL_20 n.natAbs (by omega)
    have hct := fun w => cat_any (P := Try.prog) [45] (digL n.natAbs) (by simp; omega) w
    have e1 : IntKind.i64.wrap (n + 1) = n + 1 := IntWalk.i64_in _ (by omega)
    have e2 : IntKind.i64.wrap (-(n + 1)) = -(n + 1) := IntWalk.i64_in _ (by omega)
    have e3 : IntKind.u64.wrap (-(n + 1)) = -(n + 1) := by rw [IntKind.wrap_u64]; omega
    have e4 : IntKind.u64.wrap (-(n + 1) + 1) = (n.natAbs : Int) := by rw [IntKind.wrap_u64]; omega
    have hb : bs [45] = ⟨#[45]⟩ := rfl
    rw [hb] at hct
    change ∀ w, _ = Result.ok (Value.string (bs (45 :: digL n.natAbs))) w at hct
    generalize bs (45 :: digL n.natAbs) = R3 at *
    generalize bs (digL n.natAbs) = R2 at *
    generalize n.natAbs = N at *
    clear hlen hn
    go_enter Try.func116, Try.ntmps116
    go_wp2_with fail
    refine (C1.out _).mono ?_; rintro e w1 ⟨rfl, b1⟩
    go_wp2
    go_ret
    exact ⟨rfl, b1⟩
  · rw [if_neg hn]
    obtain ⟨N, rfl⟩ := Int.eq_ofNat_of_zero_le (show 0 ≤ n by omega)
    have C1 := Lib.hid (fun w => up_any N (by omega) w)
    have t1 : decide ((N : Int) < 0) = false := decide_eq_false hn
    have e3 : IntKind.u64.wrap (N : Int) = N := by rw [IntKind.wrap_u64]; omega
    have e5 : (N : Int).toNat = N := by omega
    rw [e5]
    generalize bs (digL N) = R2 at *
    clear hn
    go_enter Try.func116, Try.ntmps116
    go_wp2_with fail
    refine (C1.out _).mono ?_; rintro e w1 ⟨rfl, b1⟩
    go_wp2
    go_ret
    exact ⟨rfl, b1⟩
end Go.Proofs.Ytailbppddnegoaa
