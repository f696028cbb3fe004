/- Layer 2 (varint): the contracts of Get, GetInt and the reference's Get; awake. -/
import Derived.Test.YtailbppddnegoaaV1
namespace Go.Proofs.Ytailbppddnegoaa
open Go.RowKit
set_option linter.unusedVariables false
set_option maxRecDepth 100000

/-- What Get answers, as values. -/
def getV (r : Nat × Nat × Int) : Value := .tuple #[.int .u64 (r.1 : Int), .int .i64 (r.2.1 : Int), .int .i64 r.2.2]
theorem or_low7 (x c j : Nat) (hx : x < 2 ^ (7 * j)) (hc : c < 128) (hj : j ≤ 9) (h9 : j = 9 → c ≤ 1) :
    bits .or .u64 (x : Int) (IntKind.u64.wrap ((c : Int) * 2 ^ (7 * j))) = ((x + c * 2 ^ (7 * j) : Nat) : Int) := by
  have hc' : c * 2 ^ (7 * j) < 18446744073709551616 := by
    rcases Nat.lt_or_ge j 9 with h | h
    · have h1 : c * 2 ^ (7 * j) < 128 * 2 ^ (7 * j) := Nat.mul_lt_mul_of_pos_right hc (Nat.two_pow_pos _)
      have h2 : 128 * 2 ^ (7 * j) = 2 ^ (7 * (j + 1)) := by rw [pow7, Nat.mul_comm]
      have h3 : 2 ^ (7 * (j + 1)) ≤ 2 ^ 63 := Nat.pow_le_pow_right (by omega) (by omega)
      omega
    · have : j = 9 := by omega
      subst this
      have := h9 rfl
      have : (2 : Nat) ^ (7 * 9) = 9223372036854775808 := rfl
      rw [this]
      omega
  have hx' : x < 18446744073709551616 := Nat.lt_of_lt_of_le hx (show 2 ^ (7 * j) ≤ 2 ^ 64 from Nat.pow_le_pow_right (by omega) (by omega))
  have e : ((c : Int) * 2 ^ (7 * j)) = ((c * 2 ^ (7 * j) : Nat) : Int) := by simp
  have ew : IntKind.u64.wrap ((c * 2 ^ (7 * j) : Nat) : Int) = ((c * 2 ^ (7 * j) : Nat) : Int) := by
    rw [IntKind.wrap_u64]
    generalize c * 2 ^ (7 * j) = M at *
    omega
  rw [e, ew, u64_or_nat x _ hx' hc', Nat.or_comm, Nat.add_comm x]
  congr 1
  exact nat_join (7 * j) _ _ (by simp) hx
theorem vget_drop (l : List UInt8) (j X : Nat) (h : j < l.length) : vget j X (l.drop j) =
    if (0 < j ∧ (l.getD j 0).toNat = 0) ∨ (j = 9 ∧ 1 < (l.getD j 0).toNat) then (0, 0, 1) else if (l.getD j 0).toNat < 128 then (X + (l.getD j 0).toNat * 2 ^ (7 * j), j + 1, 0) else vget (j + 1) (X + (l.getD j 0).toNat % 128 * 2 ^ (7 * j)) (l.drop (j + 1)) := by
  rw [List.drop_eq_getElem_cons h, vget_cons]
  simp [List.getD, List.getElem?_eq_getElem h]
theorem acc_lt (X c j : Nat) (hX : X < 2 ^ (7 * j)) : X + c % 128 * 2 ^ (7 * j) < 2 ^ (7 * (j + 1)) := by
  rw [pow7]
  have h1 : c % 128 * 2 ^ (7 * j) ≤ 127 * 2 ^ (7 * j) := Nat.mul_le_mul_right _ (by omega)
  omega
set_option maxRecDepth 100000 in
set_option maxHeartbeats 1000000 in
theorem get_any (A : Option Addr) (n c B : Nat) (l : List UInt8) (w : World) (hn : n ≤ 9223372036854775807) (hr : Rd w B 1 A n (bv l)) :
    Calls Try.prog 125 #[.slice A n c] w fun e w' => e = .returned (getV (vget 0 0 l)) ∧ w = w' := by
  have hl : l.length = n := by have := hr.len; rw [bv_length] at this; exact this
  go_enter Try.func125, Try.ntmps125
  go_wp2
  go_step3
  go_wp2
  go_step3
  go_wp2
  go_loop [5, 6] (fun x i => ∃ j X : Nat, j ≤ n ∧ j ≤ 9 ∧ i = .int .i64 j ∧ x = .int .u64 (X : Int) ∧ X < 2 ^ (7 * j) ∧ vget 0 0 l = vget j X (l.drop j)) (fun _ i => 10 - (intOf i).toNat)
  case atStart => exact ⟨0, 0, Nat.zero_le _, by omega, rfl, rfl, by decide, rfl⟩
  case round =>
    obtain ⟨j, X, hj, hj9, rfl, rfl, hX, hv⟩ := hrel
    by_cases hlt : j < n
    · rw [vget_drop l j X (by omega)] at hv
      obtain ⟨b, o, rfl, _, hc⟩ := hr.byte hlt
      have hcb := (l.getD j 0).toNat_lt
      have hacc := acc_lt X (l.getD j 0).toNat j hX
      generalize (l.getD j 0).toNat = y at *
      have hm : bits .and .u8 (y : Int) 127 = (y : Int) % 128 := bits_mask .u8 8 (by decide) wraps_u8 7 (by decide) y (by omega) (by omega)
      have hne : ((j : Int) == (n : Int)) = false := by simp; omega
      by_cases b1 : 0 < j ∧ y = 0
      · rw [if_pos (.inl b1)] at hv
        have HV := Lib.hid hv
        obtain ⟨a1, rfl⟩ := b1
        clear hv hacc hX
        go_wp2
        go_ret3
        exact ⟨by rw [HV.out]; rfl, rfl⟩
      · by_cases b2 : j = 9 ∧ 1 < y
        · rw [if_pos (.inr b2)] at hv
          have HV := Lib.hid hv
          obtain ⟨rfl, a2⟩ := b2
          have g1 : ((y : Int) == 0) = false := by simp; omega
          clear hv hacc hX b1
          go_wp2
          go_ret3
          exact ⟨by rw [HV.out]; rfl, rfl⟩
        · rw [if_neg (fun h => h.elim b1 b2)] at hv
          have b2n : j = 9 → y ≤ 1 := fun h => by
            rcases Nat.lt_or_ge 1 y with h1 | h1
            · exact absurd ⟨h, h1⟩ b2
            · exact h1
          have hor := or_low7 X (y % 128) j hX (by omega) hj9 (fun h => by have := b2n h; omega)
          clear b2n
          have e : ((y % 128 : Nat) : Int) = (y : Int) % 128 := by omega
          rw [e] at hor
          by_cases h128 : y < 128
          · rw [if_pos h128] at hv
            rw [show y % 128 = y by omega] at hor
            by_cases h9 : j = 9
            · subst h9
              have hy1 : y ≤ 1 := by
                rcases Nat.lt_or_ge 1 y with h1 | h1
                · exact absurd ⟨rfl, h1⟩ b2
                · exact h1
              have hp9 : (2 : Int) ^ (7 * 9) = 9223372036854775808 := rfl
              rw [hp9, IntWalk.u64_in _ (by omega)] at hor
              obtain ⟨Z, hZ⟩ : ∃ Z, X + y * 2 ^ (7 * 9) = Z := ⟨_, rfl⟩
              rw [hZ] at hor hv
              clear hZ
              have HV := Lib.hid hv
              have gy : ((y : Int) == 0) = false := by
                rw [beq_eq_false_iff_ne]; intro h; exact b1 ⟨by omega, by omega⟩
              have gy' : ¬ 1 < (y : Int) := by omega
              clear hv hacc hX e hp9 b1 b2
              go_wp2
              all_goals
                go_ret3
                exact ⟨by rw [HV.out]; rfl, rfl⟩
            · generalize X + y * 2 ^ (7 * j) = Z at *
              have HV := Lib.hid hv
              have h63 : ¬ (7 : Int) * (j : Int) = 63 := by omega
              clear hv hacc hX e b2
              go_wp2
              all_goals
                go_ret3
                exact ⟨by rw [HV.out]; rfl, rfl⟩
          · rw [if_neg h128] at hv
            have h9 : ¬ j = 9 := fun h => b2 ⟨h, by omega⟩
            have h63 : ¬ (7 : Int) * (j : Int) = 63 := by omega
            have hy0 : ((y : Int) == 0) = false := by simp; omega
            generalize X + y % 128 * 2 ^ (7 * j) = Z at *
            have HV := Lib.hid hv
            have HA := Lib.hid hacc
            clear hv hacc hX e b1 b2
            go_wp2
            all_goals
              go_round
              case rel => exact ⟨j + 1, Z, by omega, by omega, by go_num, rfl, HA.out, HV.out⟩
              case measure => simp [intOf]; omega
    · have hjn : j = n := by omega
      subst hjn
      rw [List.drop_of_length_le (by omega), vget_nil] at hv
      have HV := Lib.hid hv
      have hne : ((j : Int) == (j : Int)) = true := by simp
      clear hv hX
      go_wp2
      go_ret3
      exact ⟨by rw [HV.out]; rfl, rfl⟩
theorem vget_300 : vget 0 0 [172, 2, 9] = (300, 2, 0) := by decide
theorem vput_300 : vput 300 = [172, 2] := by rw [vput_big (by omega), vput_small (by omega)]; rfl
theorem put300 (w : World) : Calls Try.prog 122 #[.slice none 0 0, .int .u64 300] w fun e w' =>
    ∃ g c, e = .returned (.slice (some ⟨g, 0, none⟩) 2 c) ∧ w'.cell? ⟨g, 0, none⟩ = some (.int .u8 172) ∧ w'.cell? ⟨g, 1, none⟩ = some (.int .u8 2) ∧ Below w.heap.size w w' := by
  refine (put_any none 0 0 w.heap.size 300 [] w (by omega) (by omega) Rd.nil_ (Nat.le_refl _)).mono ?_
  rintro e w1 ⟨A, c, rfl, o, b⟩
  rw [List.nil_append, vput_300] at o ⊢
  rcases o.1.2 with ⟨_, h0⟩ | ⟨g, cap, cur, hv, _⟩
  · simp at h0
  · injection hv with hA
    subst hA
    exact ⟨g, c, rfl, o.1.cellAt 0 (by decide), o.1.cellAt 1 (by decide), b⟩
end Go.Proofs.Ytailbppddnegoaa
