/- Layer 2 (varint), plain: short bytes of numbers. No program in sight. -/
import Derived.Test.YtailbppddnegoaaBN
import Derived.Lib.Varint
namespace Go.Proofs.Ytailbppddnegoaa
open Go.RowKit
set_option linter.unusedVariables false
set_option maxRecDepth 100000

/-- A number's short bytes (the library's own function). -/
def vput (x : Nat) : List UInt8 := Lib.uvarint x
theorem vput_small {x : Nat} (h : x < 128) : vput x = [UInt8.ofNat x] := Lib.uvarint_small h
theorem vput_big {x : Nat} (h : 128 ≤ x) : vput x = UInt8.ofNat (x % 128 + 128) :: vput (x / 128) := Lib.uvarint_big h
theorem vput_pos (x : Nat) : 1 ≤ (vput x).length := Lib.uvarint_pos x
theorem vput_le {x : Nat} (h : x < 18446744073709551616) : (vput x).length ≤ 10 := Lib.uvarint_length64 h
theorem small_toNat {x : Nat} (h : x < 256) : (UInt8.ofNat x).toNat = x := by simp; omega

/-- The number that bytes begin with, i of its bytes gone by already: the number, how many bytes, the error. -/
def vget (i acc : Nat) : List UInt8 → Nat × Nat × Int
  | [] => (0, 0, 2)
  | c :: r => if (0 < i ∧ c.toNat = 0) ∨ (i = 9 ∧ 1 < c.toNat) then (0, 0, 1) else if c.toNat < 128 then (acc + c.toNat * 2 ^ (7 * i), i + 1, 0) else vget (i + 1) (acc + c.toNat % 128 * 2 ^ (7 * i)) r
theorem vget_nil (i acc : Nat) : vget i acc [] = (0, 0, 2) := rfl
theorem vget_cons (i acc : Nat) (c : UInt8) (r : List UInt8) : vget i acc (c :: r) = if (0 < i ∧ c.toNat = 0) ∨ (i = 9 ∧ 1 < c.toNat) then (0, 0, 1) else if c.toNat < 128 then (acc + c.toNat * 2 ^ (7 * i), i + 1, 0) else vget (i + 1) (acc + c.toNat % 128 * 2 ^ (7 * i)) r := rfl
theorem pow7 (i : Nat) : 2 ^ (7 * (i + 1)) = 2 ^ (7 * i) * 128 := by rw [show 7 * (i + 1) = 7 * i + 7 by omega, Nat.pow_add]
theorem pow64 (i : Nat) (h : i ≤ 8) : 2 ^ (64 - 7 * i) = 2 ^ (64 - 7 * (i + 1)) * 128 := by rw [show 64 - 7 * i = (64 - 7 * (i + 1)) + 7 by omega, Nat.pow_add]
theorem vget_put_gen (r : List UInt8) : ∀ (m i acc : Nat), i ≤ 9 → m < 2 ^ (64 - 7 * i) → (0 < i → m ≠ 0) → vget i acc (vput m ++ r) = (acc + m * 2 ^ (7 * i), i + (vput m).length, 0) := by
  intro m
  induction m using Nat.strongRecOn with
  | _ m ih =>
    intro i acc hi hm h0
    by_cases hs : m < 128
    · rw [vput_small hs, List.singleton_append, vget_cons, small_toNat (by omega)]
      have h1 : ¬ ((0 < i ∧ m = 0) ∨ (i = 9 ∧ 1 < m)) := by
        rintro (⟨a, b⟩ | ⟨a, b⟩)
        · exact h0 a b
        · subst a
          have : 2 ^ (64 - 7 * 9) = 2 := rfl
          omega
      rw [if_neg h1, if_pos hs]
      rfl
    · have hi8 : i ≤ 8 := by
        rcases Nat.lt_or_ge i 9 with h | h
        · omega
        · have : i = 9 := by omega
          subst this
          have : 2 ^ (64 - 7 * 9) = 2 := rfl
          omega
      rw [vput_big (by omega), List.cons_append, vget_cons, small_toNat (by omega)]
      have h1 : ¬ ((0 < i ∧ m % 128 + 128 = 0) ∨ (i = 9 ∧ 1 < m % 128 + 128)) := by omega
      rw [if_neg h1, if_neg (by omega), ih (m / 128) (by omega) (i + 1) _ (by omega) (by rw [pow64 i hi8] at hm; exact Nat.div_lt_of_lt_mul (by rw [Nat.mul_comm]; exact hm)) (fun _ => by omega)]
      rw [List.length_cons, pow7]
      have e1 : (m % 128 + 128) % 128 = m % 128 := by omega
      rw [e1]
      refine Prod.ext ?_ (Prod.ext ?_ rfl)
      · show acc + m % 128 * 2 ^ (7 * i) + m / 128 * (2 ^ (7 * i) * 128) = acc + m * 2 ^ (7 * i)
        have hd : m = m % 128 + 128 * (m / 128) := by omega
        generalize 2 ^ (7 * i) = p
        conv => rhs; rw [hd]
        rw [Nat.add_mul, Nat.mul_comm 128 (m / 128), Nat.mul_assoc (m / 128), Nat.mul_comm 128 p]
        omega
      · show i + 1 + (vput (m / 128)).length = i + ((vput (m / 128)).length + 1)
        omega
theorem vget_put (m : Nat) (r : List UInt8) (hm : m < 18446744073709551616) : vget 0 0 (vput m ++ r) = (m, (vput m).length, 0) := by
  have := vget_put_gen r m 0 0 (by omega) (by simpa using hm) (by omega)
  simpa using this
theorem vget_only_gen : ∀ (l : List UInt8) (i acc x k : Nat), i ≤ 9 → vget i acc l = (x, k, 0) →
    ∃ m, m < 2 ^ (64 - 7 * i) ∧ (0 < i → m ≠ 0) ∧ x = acc + m * 2 ^ (7 * i) ∧ k = i + (vput m).length ∧ ∃ r, l = vput m ++ r := by
  intro l
  induction l with
  | nil => intro i acc x k _ h; rw [vget_nil] at h; simp at h
  | cons c l ih =>
    intro i acc x k hi h
    have hc := c.toNat_lt
    rw [vget_cons] at h
    split at h
    · simp at h
    · rename_i h1
      have hp := Nat.two_pow_pos (64 - 7 * i)
      split at h
      · rename_i h2
        simp only [Prod.mk.injEq] at h
        obtain ⟨rfl, rfl, _⟩ := h
        refine ⟨c.toNat, ?_, fun hi0 e => h1 (.inl ⟨hi0, e⟩), rfl, ?_, l, ?_⟩
        · rcases Nat.lt_or_ge i 9 with hlt | hge
          · have : 2 ^ 8 ≤ 2 ^ (64 - 7 * i) := Nat.pow_le_pow_right (by omega) (by omega)
            omega
          · have : i = 9 := by omega
            subst this
            have : 2 ^ (64 - 7 * 9) = 2 := rfl
            omega
        · rw [vput_small h2]; rfl
        · rw [vput_small h2]; simp
      · rename_i h2
        have hi8 : i ≤ 8 := by
          rcases Nat.lt_or_ge i 9 with hlt | hge
          · omega
          · exact absurd (.inr ⟨by omega, by omega⟩) h1
        obtain ⟨m, hm, h0, hx, hk, r, hl⟩ := ih (i + 1) _ x k (by omega) h
        have h0 := h0 (by omega)
        have hbig : 128 ≤ c.toNat % 128 + 128 * m := by omega
        have e1 : (c.toNat % 128 + 128 * m) / 128 = m := by omega
        have e2 : (c.toNat % 128 + 128 * m) % 128 = c.toNat % 128 := by omega
        refine ⟨c.toNat % 128 + 128 * m, ?_, fun _ => by omega, ?_, ?_, r, ?_⟩
        · rw [pow64 i hi8]; omega
        · rw [hx, pow7]
          generalize 2 ^ (7 * i) = p
          rw [Nat.add_mul, Nat.mul_comm 128 m, Nat.mul_assoc m, Nat.mul_comm 128 p]
          omega
        · rw [vput_big hbig, e1, hk, List.length_cons]; omega
        · rw [vput_big hbig, e1, e2, hl]
          have : UInt8.ofNat (c.toNat % 128 + 128) = c := by
            have : c.toNat % 128 + 128 = c.toNat := by omega
            rw [this]; simp
          rw [this]; rfl
theorem vget_only (l : List UInt8) (x k : Nat) (h : vget 0 0 l = (x, k, 0)) : x < 18446744073709551616 ∧ k = (vput x).length ∧ ∃ r, l = vput x ++ r := by
  obtain ⟨m, hm, _, hx, hk, hr⟩ := vget_only_gen l 0 0 x k (by omega) h
  simp at hx hk hm
  subst hx
  exact ⟨hm, hk, hr⟩
/-- The error is one of three; beside one that is none all is 0. -/
theorem vget_err : ∀ (l : List UInt8) (i acc : Nat), (∃ x k, vget i acc l = (x, k, 0)) ∨ vget i acc l = (0, 0, 1) ∨ vget i acc l = (0, 0, 2) := by
  intro l
  induction l with
  | nil => intro i acc; exact .inr (.inr rfl)
  | cons c l ih =>
    intro i acc
    rw [vget_cons]
    split
    · exact .inr (.inl rfl)
    · split
      · exact .inl ⟨_, _, rfl⟩
      · exact ih _ _
theorem vget_lt (l : List UInt8) : (vget 0 0 l).1 < 18446744073709551616 := by
  rcases vget_err l 0 0 with ⟨x, k, h⟩ | h | h
  · rw [h]; exact (vget_only l x k h).1
  · rw [h]; decide
  · rw [h]; decide
theorem vget_le (l : List UInt8) : (vget 0 0 l).2.1 ≤ l.length ∧ (vget 0 0 l).2.1 ≤ 10 := by
  rcases vget_err l 0 0 with ⟨x, k, h⟩ | h | h
  · rw [h]
    obtain ⟨hx, hk, r, hl⟩ := vget_only l x k h
    have := vput_le hx
    have := congrArg List.length hl
    rw [List.length_append] at this
    exact ⟨by show k ≤ l.length; omega, by show k ≤ 10; omega⟩
  · rw [h]; exact ⟨Nat.zero_le _, by decide⟩
  · rw [h]; exact ⟨Nat.zero_le _, by decide⟩
/-- How many short bytes a number has. -/
def vsize (n : Nat) : Nat := max 1 ((widN n + 6) / 7)
theorem widN_lt (n k : Nat) (h : n < 2 ^ k) : widN n ≤ k := by
  unfold widN
  split
  · omega
  · rename_i h0
    have := (Nat.log2_lt h0).2 h
    omega
theorem widN_div (n : Nat) (h : 128 ≤ n) : widN n = widN (n / 128) + 7 := by
  have h1 : n / 128 ≠ 0 := by omega
  obtain ⟨k, hk⟩ : ∃ k, k = (n / 128).log2 := ⟨_, rfl⟩
  obtain ⟨a, b⟩ := (Nat.log2_eq_iff h1).1 hk.symm
  have e1 : widN (n / 128) = k + 1 := widN_of _ k a b
  have hp : 2 ^ (k + 7) = 2 ^ k * 128 := Nat.pow_add 2 k 7
  have hp1 : 2 ^ (k + 7 + 1) = 2 ^ (k + 1) * 128 := by rw [show k + 7 + 1 = k + 1 + 7 by omega, Nat.pow_add]
  rw [e1, widN_of n (k + 7) (by rw [hp]; omega) (by rw [hp1]; omega)]
theorem vsize_eq (n : Nat) : (vput n).length = vsize n := by
  induction n using Nat.strongRecOn with
  | _ n ih =>
    by_cases hs : n < 128
    · rw [vput_small hs]
      have := widN_lt n 7 hs
      unfold vsize
      simp only [List.length_singleton]
      omega
    · rw [vput_big (by omega), List.length_cons, ih (n / 128) (by omega)]
      unfold vsize
      rw [widN_div n (by omega)]
      have : 1 ≤ widN (n / 128) := by
        unfold widN
        rw [if_neg (by omega)]
        omega
      omega
theorem widN_mono {n m : Nat} (h : n ≤ m) : widN n ≤ widN m := by
  by_cases hm : m = 0
  · have : n = 0 := by omega
    subst this; subst hm; exact Nat.le_refl _
  · apply widN_lt
    unfold widN
    rw [if_neg hm]
    exact Nat.lt_of_le_of_lt h ((Nat.log2_eq_iff hm).1 rfl).2
theorem vsize_mono {n m : Nat} (h : n ≤ m) : vsize n ≤ vsize m := by
  have := widN_mono h
  unfold vsize
  omega
end Go.Proofs.Ytailbppddnegoaa
