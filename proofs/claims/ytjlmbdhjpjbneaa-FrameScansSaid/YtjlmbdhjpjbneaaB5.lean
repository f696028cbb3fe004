/- Layer 1 (bits): the contracts of Number, Turn, Width, Field, With, and of the reference's Number, Bit, Width. -/
import Derived.Test.YtjlmbdhjpjbneaaB4
import Derived.Test.YtjlmbdhjpjbneaaBN
namespace Go.Proofs.Ytjlmbdhjpjbneaa
open Go.RowKit
set_option linter.unusedVariables false
set_option maxRecDepth 100000

theorem turn_bits (n k : Nat) (hn : n < 4294967296) (hk : k < 32) :
    bits .or .u32 ((n : Int) * 2 ^ k % 4294967296) ((n : Int) / 2 ^ (32 - k)) = ((turnN n k : Nat) : Int) := by
  have e1 : ((n : Int) * 2 ^ k % 4294967296) = ((n * 2 ^ k % 4294967296 : Nat) : Int) := by simp
  have e2 : ((n : Int) / 2 ^ (32 - k)) = ((n / 2 ^ (32 - k) : Nat) : Int) := by simp
  rw [e1, e2, u32_or_nat _ _ (Nat.mod_lt _ (by decide)) (Nat.lt_of_le_of_lt (Nat.div_le_self _ _) hn)]
  rfl
theorem and31 (b : Int) (h : -9223372036854775808 ≤ b) (h' : b ≤ 9223372036854775807) : bits .and .i64 b 31 = b % 32 := by
  show IntKind.i64.wrap ((BitVec.ofInt 64 b &&& BitVec.ofInt 64 31).toNat : Int) = _
  have e : (BitVec.ofInt 64 31).toNat = 2 ^ 5 - 1 := rfl
  rw [BitVec.toNat_and, e, Nat.and_two_pow_sub_one_eq_mod, BitVec.toNat_ofInt, IntKind.wrap_i64]
  simp
  omega
theorem or_low (x c j : Nat) (hx : x < 256 ^ j) (hc : c < 256) (hj : j < 8) :
    bits .or .u64 (x : Int) (IntKind.u64.wrap ((c : Int) * 2 ^ (8 * j))) = ((x + c * 256 ^ j : Nat) : Int) := by
  have hp : 256 ^ j * 256 ≤ 2 ^ 64 := by rw [← Nat.pow_succ, show (2 ^ 64 : Nat) = 256 ^ 8 from rfl]; exact Nat.pow_le_pow_right (by omega) (by omega)
  have hc' : c * 256 ^ j < 18446744073709551616 := by
    have : c * 256 ^ j < 256 * 256 ^ j := Nat.mul_lt_mul_of_pos_right hc (Nat.pow_pos (by omega))
    omega
  have e : ((c : Int) * 2 ^ (8 * j)) = ((c * 256 ^ j : Nat) : Int) := by rw [pow256]; simp
  have hx' : x < 18446744073709551616 := by omega
  have ew : IntKind.u64.wrap ((c * 256 ^ j : Nat) : Int) = ((c * 256 ^ j : Nat) : Int) := by rw [IntKind.wrap_u64]; omega
  rw [e, ew, u64_or_nat x (c * 256 ^ j) hx' hc']
  congr 1
  rw [Nat.or_comm, Nat.add_comm]
  exact nat_join (8 * j) _ _ (by rw [pow256]; simp) (by rw [← pow256]; exact hx)
theorem ofLe_take (l : List UInt8) (j : Nat) (h : j < l.length) : ofLe (l.take (j + 1)) = ofLe (l.take j) + (l.getD j 0).toNat * 256 ^ j := by
  rw [List.take_succ_eq_append_getElem h, ofLe_append]
  simp only [List.length_take, ofLe, Nat.mul_zero, Nat.add_zero]
  rw [Nat.min_eq_left (by omega), Nat.mul_comm]
  simp [List.getD, List.getElem?_eq_getElem h]
theorem ofLe_drop (l : List UInt8) (j : Nat) (h : j < l.length) : ofLe (l.drop j) = ofLe (l.drop (j + 1)) * 256 + (l.getD j 0).toNat := by
  rw [List.drop_eq_getElem_cons h]
  simp only [ofLe]
  simp [List.getD, List.getElem?_eq_getElem h]
  omega
theorem number_no (A : Option Addr) (n c : Nat) (w : World) (h : n = 0 ∨ 8 < n) (hn : n ≤ 9223372036854775807) :
    Calls Try.prog 104 #[.slice A n c] w fun e w' => e = .returned (.tuple #[.int .u64 0, .int .i64 (if n = 0 then 2 else 3)]) ∧ w = w' := by
  rcases h with rfl | h
  · go_enter Try.func104, Try.ntmps104
    go_wp2
    go_ret2
    exact ⟨rfl, rfl⟩
  · have h0 : ((n : Int) == 0) = false := by simp; omega
    go_enter Try.func104, Try.ntmps104
    go_wp2
    go_ret2
    exact ⟨rfl, rfl⟩
set_option maxHeartbeats 400000 in
theorem number_any (A : Option Addr) (n c B : Nat) (l : List UInt8) (w : World) (h1 : 1 ≤ n) (h8 : n ≤ 8) (hr : Rd w B 1 A n (bv l)) :
    Calls Try.prog 104 #[.slice A n c] w fun e w' => e = .returned (.tuple #[.int .u64 ((ofLe l : Nat) : Int), .int .i64 0]) ∧ w = w' := by
  have hl : l.length = n := by have := hr.len; rw [bv_length] at this; exact this
  have h0 : ((n : Int) == 0) = false := by simp; omega
  obtain ⟨b, o, rfl, _, _⟩ := hr.byte (k := 0) (by omega)
  go_enter Try.func104, Try.ntmps104
  go_wp2
  go_loop [4, 17] (fun x i => ∃ j : Nat, j ≤ n ∧ i = .int .i64 j ∧ x = .int .u64 ((ofLe (l.take j) : Nat) : Int)) (fun _ i => n - (intOf i).toNat)
  case atStart => exact ⟨0, Nat.zero_le _, rfl, by simp [ofLe]⟩
  case round =>
    obtain ⟨j, hj, rfl, rfl⟩ := hrel
    by_cases hlt : j < n
    · obtain ⟨b', o', hA, _, hc⟩ := hr.byte hlt
      injection hA with hA
      injection hA with hA1 hA2
      subst hA1 hA2
      have hx := ofLe_lt (l.take j)
      rw [List.length_take, Nat.min_eq_left (by omega)] at hx
      have hcb := (l.getD j 0).toNat_lt
      have ho := or_low (ofLe (l.take j)) (l.getD j 0).toNat j hx (by omega) (by omega)
      rw [← ofLe_take l j (by omega)] at ho
      have HO := Lib.hid ho
      clear ho
      generalize ofLe (l.take j) = X at *
      generalize (l.getD j 0).toNat = x at *
      clear hx
      go_wp2
      go_round
      case rel => exact ⟨j + 1, by omega, by go_num, by rw [HO.out]⟩
      case measure => simp [intOf]; omega
    · have : j = n := by omega
      subst this
      rw [List.take_of_length_le (by omega)]
      go_wp2
      go_ret2
      exact ⟨rfl, rfl⟩

set_option maxHeartbeats 400000 in
theorem rnumber_any (A : Option Addr) (n c B : Nat) (l : List UInt8) (w : World) (h8 : n ≤ 8) (hr : Rd w B 1 A n (bv l)) :
    Calls Try.prog 106 #[.slice A n c] w fun e w' => e = .returned (.int .u64 ((ofLe l : Nat) : Int)) ∧ w = w' := by
  have hl : l.length = n := by have := hr.len; rw [bv_length] at this; exact this
  go_enter Try.func106, Try.ntmps106
  go_wp2
  go_loop [3, 4] (fun x i => ∃ j : Nat, j ≤ n ∧ i = .int .i64 ((j : Int) - 1) ∧ x = .int .u64 ((ofLe (l.drop j) : Nat) : Int)) (fun _ i => (intOf i + 1).toNat)
  case atStart => exact ⟨n, Nat.le_refl _, rfl, by rw [List.drop_of_length_le (by omega)]; rfl⟩
  case round =>
    obtain ⟨j, hj, rfl, rfl⟩ := hrel
    by_cases hlt : 0 < j
    · obtain ⟨k, rfl⟩ : ∃ k, j = k + 1 := ⟨j - 1, by omega⟩
      obtain ⟨b, o, rfl, _, hc⟩ := hr.byte (k := k) (by omega)
      have hx := ofLe_lt (l.drop (k + 1))
      have hp : 256 ^ (l.drop (k + 1)).length ≤ 256 ^ 7 := Nat.pow_le_pow_right (by omega) (by rw [List.length_drop]; omega)
      have hd := ofLe_drop l k (by omega)
      have hcb := (l.getD k 0).toNat_lt
      have hx' : ofLe (l.drop (k + 1)) < 72057594037927936 := Nat.lt_of_lt_of_le hx hp
      clear hp hx
      generalize ofLe (l.drop (k + 1)) = X at *
      generalize (l.getD k 0).toNat = x at *
      have HD := Lib.hid hd
      clear hd
      have e1 : ((k + 1 : Nat) : Int) - 1 = (k : Int) := by omega
      rw [e1]
      go_wp2
      go_round
      case rel => exact ⟨k, by omega, rfl, by rw [HD.out]; go_num⟩
      case measure => simp [intOf]
    · have : j = 0 := by omega
      subst this
      go_wp2
      go_ret
      exact ⟨by simp, rfl⟩
theorem wid_step (m o s k : Nat) (hs : s = 2 ^ k) (hlt : m / 2 ^ o < 2 ^ (2 ^ (k + 1))) :
    m / 2 ^ (o + s) = m / 2 ^ o / 2 ^ s ∧ m / 2 ^ (o + s) < 2 ^ (2 ^ k) ∧ (m / 2 ^ o / 2 ^ s = 0 → m / 2 ^ o < 2 ^ (2 ^ k)) := by
  have e : m / 2 ^ (o + s) = m / 2 ^ o / 2 ^ s := by rw [Nat.pow_add, Nat.div_div_eq_div_mul]
  subst hs
  have hp : 2 ^ (2 ^ (k + 1)) = 2 ^ (2 ^ k) * 2 ^ (2 ^ k) := by rw [← Nat.pow_add, Nat.pow_succ, Nat.mul_two]
  refine ⟨e, ?_, fun h => ?_⟩
  · rw [e, Nat.div_lt_iff_lt_mul (Nat.two_pow_pos _), ← hp]; exact hlt
  · rcases Nat.div_eq_zero_iff.1 h with h | h
    · have := Nat.two_pow_pos (2 ^ k); omega
    · exact h
set_option maxHeartbeats 400000 in
theorem width_any (m : Nat) (hm : m < 18446744073709551616) (w : World) :
    Calls Try.prog 121 #[.int .u64 m] w fun e w' => e = .returned (.int .i64 ((widN m : Nat) : Int)) ∧ w = w' := by
  go_enter Try.func121, Try.ntmps121
  go_wp2
  go_loop [0, 3, 4] (fun x out st => ∃ k o s : Nat, k ≤ 6 ∧ s = 2 ^ k / 2 ∧ o ≤ 64 ∧ st = .int .i64 s ∧ out = .int .i64 o ∧ x = .int .u64 ((m / 2 ^ o : Nat) : Int) ∧ m / 2 ^ o < 2 ^ (2 ^ k) ∧ (m = 0 → o = 0) ∧ (m ≠ 0 → m / 2 ^ o ≠ 0) ∧ o + 2 ^ k ≤ 64) (fun _ _ st => (intOf st).toNat)
  case atStart => exact ⟨6, 0, 32, by omega, by decide, by omega, rfl, rfl, by simp, by simpa using hm, fun _ => rfl, fun h => by simpa using h, by decide⟩
  case round =>
    obtain ⟨k, o, s, hk, hs, ho, rfl, rfl, rfl, hlt, h0, h1, ho2⟩ := hrel
    by_cases hk0 : k = 0
    · subst hk0
      have hs0 : s = 0 := by omega
      subst hs0
      have hw := widN_end m o (m / 2 ^ o) rfl hlt h0 h1
      have hlt2 : m / 2 ^ o < 2 := hlt
      generalize m / 2 ^ o = r at *
      have HW := Lib.hid hw
      clear hw h0 h1 hlt hs
      go_wp2
      go_ret
      exact ⟨ret_int (by rw [HW.out]; omega), rfl⟩
    · obtain ⟨q, rfl⟩ : ∃ q, k = q + 1 := ⟨k - 1, by omega⟩
      have hsq : s = 2 ^ q := by rw [hs, Nat.pow_succ]; omega
      have hs1 : 1 ≤ s := by rw [hsq]; exact Nat.two_pow_pos q
      have hs32 : s ≤ 32 := by rw [hsq]; exact (show 2 ^ q ≤ 2 ^ 5 from Nat.pow_le_pow_right (by omega) (by omega))
      have hst := wid_step m o s q hsq hlt
      have ho3 : o + s + s ≤ 64 := by rw [Nat.pow_succ] at ho2; omega
      have hr : m / 2 ^ o < 18446744073709551616 := Nat.lt_of_le_of_lt (Nat.div_le_self _ _) hm
      have hsh : s / 2 = 2 ^ q / 2 := by rw [hsq]
      have e : ((m / 2 ^ o : Nat) : Int) / 2 ^ s = ((m / 2 ^ o / 2 ^ s : Nat) : Int) := by simp
      have HP : Hid (o + 2 ^ q ≤ 64 ∧ o + s + 2 ^ q ≤ 64) := Lib.hid (by rw [← hsq]; omega)
      clear ho2 hs
      have H0 := Lib.hid h0
      have H1 := Lib.hid h1
      have HS := Lib.hid hst
      have HH := Lib.hid hsh
      have HE := Lib.hid e
      have HQ := Lib.hid hsq
      have HL := Lib.hid hlt
      clear h0 h1 hst hsh e hsq hlt
      by_cases hz : m / 2 ^ o / 2 ^ s = 0
      · have hz' : ((m / 2 ^ o : Nat) : Int) / 2 ^ s = 0 := by rw [HE.out, hz]; rfl
        have hzz : (((m / 2 ^ o : Nat) : Int) / 2 ^ s != 0) = false := by rw [hz']; rfl
        have HZ := Lib.hid hz
        clear hz hz'
        generalize hR : m / 2 ^ o = r at *
        have HR := Lib.hid hR
        clear hR
        go_wp2
        go_round
        case rel =>
          refine ⟨q, o, s / 2, by omega, HH.out, by omega, by go_num, rfl, by rw [HR.out], ?_, H0.out, ?_, HP.out.1⟩
          · rw [HR.out]; exact HS.out.2.2 HZ.out
          · rw [HR.out]; exact H1.out
        case measure => simp [intOf]; omega
      · have hz' : (((m / 2 ^ o : Nat) : Int) / 2 ^ s != 0) = true := by rw [HE.out, bne_iff_ne]; omega
        have HZ := Lib.hid hz
        clear hz
        generalize hR : m / 2 ^ o = r at *
        have HR := Lib.hid hR
        clear hR
        go_wp2
        go_round
        case rel =>
          refine ⟨q, o + s, s / 2, by omega, HH.out, by omega, by go_num, by go_num, ?_, HS.out.2.1, ?_, ?_, HP.out.2⟩
          · rw [HS.out.1]; simp
          · intro h; exact absurd h (by
              intro h; apply HZ.out; rw [← HR.out, h]; simp)
          · intro _; rw [HS.out.1]; exact HZ.out
        case measure => simp [intOf]; omega
end Go.Proofs.Ytjlmbdhjpjbneaa
