/- Merged: VM, V1, V2. -/
import Derived.Test.YtailbppddnegoaaBB
import Derived.Lib.Varint
import Derived.Test.YtailbppddnegoaaWW
import Derived.WalkSpells
/- Layer 2 (varint), plain: short bytes of numbers. No program in sight. -/
namespace Go.Proofs.Ytailbppddnegoaa
open Go.RowKit
set_option linter.unusedVariables false
set_option maxRecDepth 100000

/-- A number's short bytes (the library's own function). -/
def vput (x : Nat) : List UInt8 := Lib.uvarint x
theorem vput_small {x : Nat} (h : x < 128) : vput x = [UInt8.ofNat x] := Lib.uvarint_small h
theorem vput_big {x : Nat} (h : 128 ≤ x) : vput x = UInt8.ofNat (x % 128 + 128) :: vput (x / 128) := Lib.uvarint_big h
theorem vput_pos (x : Nat) : 1 ≤ (vput x).length := Lib.uvarint_pos x
theorem vput_le {x : Nat} (h : x < 18446744073709551616) : (vput x).length ≤ 10 := Lib.uvarint_length64 h
theorem small_toNat {x : Nat} (h : x < 256) : (UInt8.ofNat x).toNat = x := by simp; omega

/-- The number that bytes begin with, i of its bytes gone by already: the number, how many bytes, the error. -/
def vget (i acc : Nat) : List UInt8 → Nat × Nat × Int
  | [] => (0, 0, 2)
  | c :: r => if (0 < i ∧ c.toNat = 0) ∨ (i = 9 ∧ 1 < c.toNat) then (0, 0, 1) else if c.toNat < 128 then (acc + c.toNat * 2 ^ (7 * i), i + 1, 0) else vget (i + 1) (acc + c.toNat % 128 * 2 ^ (7 * i)) r
theorem vget_nil (i acc : Nat) : vget i acc [] = (0, 0, 2) := rfl
theorem vget_cons (i acc : Nat) (c : UInt8) (r : List UInt8) : vget i acc (c :: r) = if (0 < i ∧ c.toNat = 0) ∨ (i = 9 ∧ 1 < c.toNat) then (0, 0, 1) else if c.toNat < 128 then (acc + c.toNat * 2 ^ (7 * i), i + 1, 0) else vget (i + 1) (acc + c.toNat % 128 * 2 ^ (7 * i)) r := rfl
theorem pow7 (i : Nat) : 2 ^ (7 * (i + 1)) = 2 ^ (7 * i) * 128 := by rw [show 7 * (i + 1) = 7 * i + 7 by omega, Nat.pow_add]
theorem pow64 (i : Nat) (h : i ≤ 8) : 2 ^ (64 - 7 * i) = 2 ^ (64 - 7 * (i + 1)) * 128 := by rw [show 64 - 7 * i = (64 - 7 * (i + 1)) + 7 by omega, Nat.pow_add]
theorem vget_put_gen (r : List UInt8) : ∀ (m i acc : Nat), i ≤ 9 → m < 2 ^ (64 - 7 * i) → (0 < i → m ≠ 0) → vget i acc (vput m ++ r) = (acc + m * 2 ^ (7 * i), i + (vput m).length, 0) := by
  intro m
  induction m using Nat.strongRecOn with
  | _ m ih =>
    intro i acc hi hm h0
    by_cases hs : m < 128
    · rw [vput_small hs, List.singleton_append, vget_cons, small_toNat (by omega)]
      have h1 : ¬ ((0 < i ∧ m = 0) ∨ (i = 9 ∧ 1 < m)) := by
        rintro (⟨a, b⟩ | ⟨a, b⟩)
        · exact h0 a b
        · subst a
          have : 2 ^ (64 - 7 * 9) = 2 := rfl
          omega
      rw [if_neg h1, if_pos hs]
      rfl
    · have hi8 : i ≤ 8 := by
        rcases Nat.lt_or_ge i 9 with h | h
        · omega
        · have : i = 9 := by omega
          subst this
          have : 2 ^ (64 - 7 * 9) = 2 := rfl
          omega
      rw [vput_big (by omega), List.cons_append, vget_cons, small_toNat (by omega)]
      have h1 : ¬ ((0 < i ∧ m % 128 + 128 = 0) ∨ (i = 9 ∧ 1 < m % 128 + 128)) := by omega
      rw [if_neg h1, if_neg (by omega), ih (m / 128) (by omega) (i + 1) _ (by omega) (by rw [pow64 i hi8] at hm; exact Nat.div_lt_of_lt_mul (by rw [Nat.mul_comm]; exact hm)) (fun _ => by omega)]
      rw [List.length_cons, pow7]
      have e1 : (m % 128 + 128) % 128 = m % 128 := by omega
      rw [e1]
      refine Prod.ext ?_ (Prod.ext ?_ rfl)
      · show acc + m % 128 * 2 ^ (7 * i) + m / 128 * (2 ^ (7 * i) * 128) = acc + m * 2 ^ (7 * i)
        have hd : m = m % 128 + 128 * (m / 128) := by omega
        generalize 2 ^ (7 * i) = p
        conv => rhs; rw [hd]
        rw [Nat.add_mul, Nat.mul_comm 128 (m / 128), Nat.mul_assoc (m / 128), Nat.mul_comm 128 p]
        omega
      · show i + 1 + (vput (m / 128)).length = i + ((vput (m / 128)).length + 1)
        omega
theorem vget_put (m : Nat) (r : List UInt8) (hm : m < 18446744073709551616) : vget 0 0 (vput m ++ r) = (m, (vput m).length, 0) := by
  have := vget_put_gen r m 0 0 (by omega) (by simpa using hm) (by omega)
  simpa using this
theorem vget_only_gen : ∀ (l : List UInt8) (i acc x k : Nat), i ≤ 9 → vget i acc l = (x, k, 0) →
    ∃ m, m < 2 ^ (64 - 7 * i) ∧ (0 < i → m ≠ 0) ∧ x = acc + m * 2 ^ (7 * i) ∧ k = i + (vput m).length ∧ ∃ r, l = vput m ++ r := by
  intro l
  induction l with
  | nil => intro i acc x k _ h; rw [vget_nil] at h; simp at h
  | cons c l ih =>
    intro i acc x k hi h
    have hc := c.toNat_lt
    rw [vget_cons] at h
    split at h
    · simp at h
    · rename_i h1
      have hp := Nat.two_pow_pos (64 - 7 * i)
      split at h
      · rename_i h2
        simp only [Prod.mk.injEq] at h
        obtain ⟨rfl, rfl, _⟩ := h
        refine ⟨c.toNat, ?_, fun hi0 e => h1 (.inl ⟨hi0, e⟩), rfl, ?_, l, ?_⟩
        · rcases Nat.lt_or_ge i 9 with hlt | hge
          · have : 2 ^ 8 ≤ 2 ^ (64 - 7 * i) := Nat.pow_le_pow_right (by omega) (by omega)
            omega
          · have : i = 9 := by omega
            subst this
            have : 2 ^ (64 - 7 * 9) = 2 := rfl
            omega
        · rw [vput_small h2]; rfl
        · rw [vput_small h2]; simp
      · rename_i h2
        have hi8 : i ≤ 8 := by
          rcases Nat.lt_or_ge i 9 with hlt | hge
          · omega
          · exact absurd (.inr ⟨by omega, by omega⟩) h1
        obtain ⟨m, hm, h0, hx, hk, r, hl⟩ := ih (i + 1) _ x k (by omega) h
        have h0 := h0 (by omega)
        have hbig : 128 ≤ c.toNat % 128 + 128 * m := by omega
        have e1 : (c.toNat % 128 + 128 * m) / 128 = m := by omega
        have e2 : (c.toNat % 128 + 128 * m) % 128 = c.toNat % 128 := by omega
        refine ⟨c.toNat % 128 + 128 * m, ?_, fun _ => by omega, ?_, ?_, r, ?_⟩
        · rw [pow64 i hi8]; omega
        · rw [hx, pow7]
          generalize 2 ^ (7 * i) = p
          rw [Nat.add_mul, Nat.mul_comm 128 m, Nat.mul_assoc m, Nat.mul_comm 128 p]
          omega
        · rw [vput_big hbig, e1, hk, List.length_cons]; omega
        · rw [vput_big hbig, e1, e2, hl]
          have : UInt8.ofNat (c.toNat % 128 + 128) = c := by
            have : c.toNat % 128 + 128 = c.toNat := by omega
            rw [this]; simp
          rw [this]; rfl
theorem vget_only (l : List UInt8) (x k : Nat) (h : vget 0 0 l = (x, k, 0)) : x < 18446744073709551616 ∧ k = (vput x).length ∧ ∃ r, l = vput x ++ r := by
  obtain ⟨m, hm, _, hx, hk, hr⟩ := vget_only_gen l 0 0 x k (by omega) h
  simp at hx hk hm
  subst hx
  exact ⟨hm, hk, hr⟩
/-- The error is one of three; beside one that is none all is 0. -/
theorem vget_err : ∀ (l : List UInt8) (i acc : Nat), (∃ x k, vget i acc l = (x, k, 0)) ∨ vget i acc l = (0, 0, 1) ∨ vget i acc l = (0, 0, 2) := by
  intro l
  induction l with
  | nil => intro i acc; exact .inr (.inr rfl)
  | cons c l ih =>
    intro i acc
    rw [vget_cons]
    split
    · exact .inr (.inl rfl)
    · split
      · exact .inl ⟨_, _, rfl⟩
      · exact ih _ _
theorem vget_lt (l : List UInt8) : (vget 0 0 l).1 < 18446744073709551616 := by
  rcases vget_err l 0 0 with ⟨x, k, h⟩ | h | h
  · rw [h]; exact (vget_only l x k h).1
  · rw [h]; decide
  · rw [h]; decide
theorem vget_le (l : List UInt8) : (vget 0 0 l).2.1 ≤ l.length ∧ (vget 0 0 l).2.1 ≤ 10 := by
  rcases vget_err l 0 0 with ⟨x, k, h⟩ | h | h
  · rw [h]
    obtain ⟨hx, hk, r, hl⟩ := vget_only l x k h
    have := vput_le hx
    have := congrArg List.length hl
    rw [List.length_append] at this
    exact ⟨by show k ≤ l.length; omega, by show k ≤ 10; omega⟩
  · rw [h]; exact ⟨Nat.zero_le _, by decide⟩
  · rw [h]; exact ⟨Nat.zero_le _, by decide⟩
/-- How many short bytes a number has. -/
def vsize (n : Nat) : Nat := max 1 ((widN n + 6) / 7)
theorem widN_lt (n k : Nat) (h : n < 2 ^ k) : widN n ≤ k := by
  unfold widN
  split
  · omega
  · rename_i h0
    have := (Nat.log2_lt h0).2 h
    omega
theorem widN_div (n : Nat) (h : 128 ≤ n) : widN n = widN (n / 128) + 7 := by
  have h1 : n / 128 ≠ 0 := by omega
  obtain ⟨k, hk⟩ : ∃ k, k = (n / 128).log2 := ⟨_, rfl⟩
  obtain ⟨a, b⟩ := (Nat.log2_eq_iff h1).1 hk.symm
  have e1 : widN (n / 128) = k + 1 := widN_of _ k a b
  have hp : 2 ^ (k + 7) = 2 ^ k * 128 := Nat.pow_add 2 k 7
  have hp1 : 2 ^ (k + 7 + 1) = 2 ^ (k + 1) * 128 := by rw [show k + 7 + 1 = k + 1 + 7 by omega, Nat.pow_add]
  rw [e1, widN_of n (k + 7) (by rw [hp]; omega) (by rw [hp1]; omega)]
theorem vsize_eq (n : Nat) : (vput n).length = vsize n := by
  induction n using Nat.strongRecOn with
  | _ n ih =>
    by_cases hs : n < 128
    · rw [vput_small hs]
      have := widN_lt n 7 hs
      unfold vsize
      simp only [List.length_singleton]
      omega
    · rw [vput_big (by omega), List.length_cons, ih (n / 128) (by omega)]
      unfold vsize
      rw [widN_div n (by omega)]
      have : 1 ≤ widN (n / 128) := by
        unfold widN
        rw [if_neg (by omega)]
        omega
      omega
theorem widN_mono {n m : Nat} (h : n ≤ m) : widN n ≤ widN m := by
  by_cases hm : m = 0
  · have : n = 0 := by omega
    subst this; subst hm; exact Nat.le_refl _
  · apply widN_lt
    unfold widN
    rw [if_neg hm]
    exact Nat.lt_of_le_of_lt h ((Nat.log2_eq_iff hm).1 rfl).2
theorem vsize_mono {n m : Nat} (h : n ≤ m) : vsize n ≤ vsize m := by
  have := widN_mono h
  unfold vsize
  omega
end Go.Proofs.Ytailbppddnegoaa
/- Layer 2 (varint): the contracts of Clone at bytes, Put, PutInt, Get, GetInt, Size, and of the reference's. -/
namespace Go.Proofs.Ytailbppddnegoaa
open Go.RowKit
set_option linter.unusedVariables false
set_option maxRecDepth 100000

theorem Try.info_by : (Try.prog.info? 5).map (fun i => (i.zero, i.size, i.bytes)) = some (some (.int .u8 0), 1, 1) := by kernel_rfl
theorem own_e0 (w : World) (e : TypeId) : Own (w.alloc (.cells #[] e)) w.heap.size e 1 (some ⟨w.heap.size, 0, none⟩) 0 0 [] :=
  ⟨World.ownsRow_lit _ #[] 0 (Nat.le_refl _) (by simp [maxLen]) rfl, Nat.le_refl _, by simp [maxLen]⟩
def NewB (w : World) (l : List UInt8) (e : Ending) (w' : World) : Prop :=
  ∃ A c, e = .returned (.slice A l.length c) ∧ Own w' w.heap.size 5 1 A l.length c (bv l) ∧ Below w.heap.size w w'
theorem clone_any (A : Option Addr) (n c B : Nat) (l : List UInt8) (w : World) (hn : n ≤ 140737488355328) (hr : Rd w B 1 A n (bv l)) (hB : B ≤ w.heap.size) :
    Calls Try.prog 101 #[.slice A n c] w (NewB w l) := by
  have hl : l.length = n := by have := hr.len; rw [bv_length] at this; exact this
  obtain ⟨i0, hi, hz0, hz1, hz2⟩ := info_parts Try.info_by
  have hq := fun (w : World) => Lib.run_eql_slice_nil (P := Try.prog) w 78 5 A n c 0 0 Try.underlying78
  cases A with
  | none =>
    have h0 : n = 0 := by
      rcases Nat.eq_zero_or_pos n with h | h
      · exact h
      · obtain ⟨b, o, he, _⟩ := hr.2 (by omega); cases he
    subst h0
    have : l = [] := List.eq_nil_of_length_eq_zero hl
    subst this
    have hq : ∀ w, (binOp .eql 78 (.slice none 0 c) (.slice none 0 0)).run Try.prog w = .ok (.bool true) w := fun w => by simpa using hq w
    go_enter Try.func101, Try.ntmps101
    go_wp2
    go_ret
    exact ⟨none, 0, rfl, Own.nil_, Below.refl _ _⟩
  | some a =>
    have hq : ∀ w, (binOp .eql 78 (.slice (some a) n c) (.slice none 0 0)).run Try.prog w = .ok (.bool false) w := fun w => by simpa using hq w
    go_enter Try.func101, Try.ntmps101
    go_wp2_with (at_builtin; refine wpList_append_rd _ rfl _ _ 78 rfl w.heap.size 5 i0 (.int .u8 0) 1 1 Try.underlying78 hi hz0 hz1 hz2 rfl (by decide) (by decide) _ 0 0 [] rfl (own_e0 _ _) B (some a) n c (bv l) rfl (hr.alloc hB _) (bv_oneCell l) (by omega) (by simp) ?_; intro A2 c2 w2 o2 b2)
    go_ret
    refine ⟨A2, c2, ?_, ?_, ((Below.refl _ _).alloc (Nat.le_refl _) _).trans b2⟩
    · rw [hl]; simp [Array.getD]
    · rw [hl]; simpa using o2
set_option maxRecDepth 100000 in
set_option maxHeartbeats 400000 in
theorem put_any (A : Option Addr) (n c B x : Nat) (l : List UInt8) (w : World) (hn : n ≤ 1000000) (hx : x < 18446744073709551616) (hr : Rd w B 1 A n (bv l)) (hB : B ≤ w.heap.size) :
    Calls Try.prog 122 #[.slice A n c, .int .u64 x] w (NewB w (l ++ vput x)) := by
  have hl : l.length = n := by have := hr.len; rw [bv_length] at this; exact this
  obtain ⟨i0, hi, hz0, hz1, hz2⟩ := info_parts Try.info_by
  have hp := vput_le hx
  subst hl
  have C1 := Lib.hid (clone_any A _ c B l w (by omega) hr hB)
  go_enter Try.func122, Try.ntmps122
  go_wp2_with fail
  refine (C1.out).mono ?_; rintro e w1 ⟨A1, c1, rfl, o1, b1⟩
  go_wp2
  go_loopw [1, 5] (fun y out wr => ∃ (z : Nat) (L : List UInt8) (A1 : Option Addr) (c1 : Nat), z < 18446744073709551616 ∧ y = .int .u64 z ∧ out = .slice A1 L.length c1 ∧ Own wr w.heap.size 5 1 A1 L.length c1 (bv L) ∧ L ++ vput z = l ++ vput x ∧ Below w.heap.size w wr) (fun y _ _ => (intOf y).toNat)
  case atStart => exact ⟨x, l, A1, c1, hx, rfl, rfl, o1, rfl, b1⟩
  case round =>
    obtain ⟨z, L, A1, c1, hz, rfl, rfl, ho, he, hb⟩ := hrel
    have hlen := congrArg List.length he
    rw [List.length_append, List.length_append] at hlen
    have hz1' := vput_pos z
    have hbs := hb.size
    by_cases h128 : 128 ≤ z
    · have hbig := vput_big h128
      have e1 : bits .or .u8 ((z : Int) % 256) 128 = ((z % 128 + 128 : Nat) : Int) := by rw [Lib.u8_or128_any _ (by omega) (by omega)]; omega
      rw [hbig, List.length_cons] at hlen hz1'
      have HB := Lib.hid hbig
      have HE := Lib.hid he
      have HL := Lib.hid hlen
      have hL10 : L.length ≤ l.length + 10 := by omega
      clear hbig he hlen hz1'
      go_wp2_with (at_builtin; refine wpList_append_rd _ rfl _ _ 78 rfl w.heap.size 5 i0 (.int .u8 0) 1 1 Try.underlying78 hi hz0 hz1 hz2 rfl (by decide) (by decide) A1 _ c1 (bv L) rfl (ho.alloc _) _ _ 1 1 _ rfl (Rd.fresh _ _ _ 1 rfl) (by intro u hu; simp at hu; subst hu; rfl) (by omega) (by simp; omega) ?_; intro A2 c2 w2 o2 b2)
      go_roundw
      case rel =>
        refine ⟨z / 128, L ++ [UInt8.ofNat (z % 128 + 128)], A2, c2, by omega, by go_num, by simp, ?_, ?_, (hb.alloc (by omega) _).trans b2⟩
        · have e2 : (#[Value.int .u8 ((z : Int) % 128 + 128)]).toList = bv [UInt8.ofNat (z % 128 + 128)] := by simp [bv]; omega
          rw [e2, ← bv_append] at o2
          rw [List.length_append]
          exact o2
        · rw [List.append_assoc, List.singleton_append, ← HB.out, HE.out]
      case measure => simp [intOf]; omega
    · have hsm := vput_small (show z < 128 by omega)
      rw [hsm] at he hlen
      have HE := Lib.hid he
      have hL10 : L.length ≤ l.length + 10 := by simp at hlen; omega
      clear he hlen hsm hz1'
      go_wp2_with (at_builtin; refine wpList_append_rd _ rfl _ _ 78 rfl w.heap.size 5 i0 (.int .u8 0) 1 1 Try.underlying78 hi hz0 hz1 hz2 rfl (by decide) (by decide) A1 _ c1 (bv L) rfl (ho.alloc _) _ _ 1 1 _ rfl (Rd.fresh _ _ _ 1 rfl) (by intro u hu; simp at hu; subst hu; rfl) (by omega) (by simp; omega) ?_; intro A2 c2 w2 o2 b2)
      go_ret
      have e2 : [Value.int .u8 (z : Int)] = bv [UInt8.ofNat z] := by simp [bv]; omega
      rw [e2, ← bv_append, HE.out] at o2
      have hlen := congrArg List.length HE.out
      rw [List.length_append, List.length_singleton] at hlen
      refine ⟨A2, c2, ?_, ?_, (hb.alloc (by omega) _).trans b2⟩
      · rw [← hlen]; rfl
      · rw [← hlen]; exact o2

set_option maxRecDepth 100000 in
set_option maxHeartbeats 400000 in
theorem rput_any (x : Nat) (w : World) (hx : x < 18446744073709551616) :
    Calls Try.prog 123 #[.int .u64 x] w (NewB w (vput x)) := by
  obtain ⟨i0, hi, hz0, hz1, hz2⟩ := info_parts Try.info_by
  have hp := vput_le hx
  go_enter Try.func123, Try.ntmps123
  go_wp2
  go_loopw [0, 3, 4] (fun y out i wr => ∃ (z : Nat) (L : List UInt8) (A1 : Option Addr) (c1 : Nat), z < 18446744073709551616 ∧ y = .int .u64 z ∧ i = .int .i64 L.length ∧ L.length ≤ 10 ∧ out = .slice A1 L.length c1 ∧ Own wr w.heap.size 5 1 A1 L.length c1 (bv L) ∧ L ++ vput z = vput x ∧ Below w.heap.size w wr) (fun y _ _ _ => (intOf y).toNat)
  case atStart => exact ⟨x, [], _, 0, hx, rfl, rfl, by decide, rfl, own_e0 _ _, rfl, (Below.refl _ _).alloc (Nat.le_refl _) _⟩
  case round =>
    obtain ⟨z, L, A1, c1, hz, rfl, rfl, hL, rfl, ho, he, hb⟩ := hrel
    have hlen := congrArg List.length he
    rw [List.length_append] at hlen
    have hz1' := vput_pos z
    have hbs := hb.size
    have hL9 : L.length < 10 := by omega
    by_cases h128 : z < 128
    · have hsm := vput_small h128
      rw [hsm] at he hlen
      have HE := Lib.hid he
      clear he hlen hsm hz1'
      go_wp2_with (at_builtin; refine wpList_append_rd _ rfl _ _ 78 rfl w.heap.size 5 i0 (.int .u8 0) 1 1 Try.underlying78 hi hz0 hz1 hz2 rfl (by decide) (by decide) A1 _ c1 (bv L) rfl (ho.alloc _) _ _ 1 1 _ rfl (Rd.fresh _ _ _ 1 rfl) (by intro u hu; simp at hu; subst hu; rfl) (by omega) (by simp; omega) ?_; intro A2 c2 w2 o2 b2)
      go_ret
      have e2 : [Value.int .u8 (z : Int)] = bv [UInt8.ofNat z] := by simp [bv]; omega
      rw [e2, ← bv_append, HE.out] at o2
      have hlen := congrArg List.length HE.out
      rw [List.length_append, List.length_singleton] at hlen
      refine ⟨A2, c2, ?_, ?_, (hb.alloc (by omega) _).trans b2⟩
      · rw [← hlen]; rfl
      · rw [← hlen]; exact o2
    · have hbig := vput_big (show 128 ≤ z by omega)
      rw [hbig, List.length_cons] at hlen hz1'
      have hvp := vput_pos (z / 128)
      have HB := Lib.hid hbig
      have HE := Lib.hid he
      have hL8 : L.length + 1 ≤ 10 := by omega
      clear hbig he hlen hz1' hvp
      go_wp2_with (at_builtin; refine wpList_append_rd _ rfl _ _ 78 rfl w.heap.size 5 i0 (.int .u8 0) 1 1 Try.underlying78 hi hz0 hz1 hz2 rfl (by decide) (by decide) A1 _ c1 (bv L) rfl (ho.alloc _) _ _ 1 1 _ rfl (Rd.fresh _ _ _ 1 rfl) (by intro u hu; simp at hu; subst hu; rfl) (by omega) (by simp; omega) ?_; intro A2 c2 w2 o2 b2)
      go_roundw
      case rel =>
        refine ⟨z / 128, L ++ [UInt8.ofNat (z % 128 + 128)], A2, c2, by omega, by go_num, by rw [List.length_append, List.length_singleton]; go_num, by simp; omega, by simp, ?_, ?_, (hb.alloc (by omega) _).trans b2⟩
        · have e2 : (#[Value.int .u8 ((z : Int) % 128 + 128)]).toList = bv [UInt8.ofNat (z % 128 + 128)] := by simp [bv]; omega
          rw [e2, ← bv_append] at o2
          rw [List.length_append]
          exact o2
        · rw [List.append_assoc, List.singleton_append, ← HB.out, HE.out]
      case measure => simp [intOf]; omega
end Go.Proofs.Ytailbppddnegoaa
/- Layer 2 (varint): the contracts of Get, GetInt and the reference's Get; awake. -/
namespace Go.Proofs.Ytailbppddnegoaa
open Go.RowKit
set_option linter.unusedVariables false
set_option maxRecDepth 100000

/-- What Get answers, as values. -/
def getV (r : Nat × Nat × Int) : Value := .tuple #[.int .u64 (r.1 : Int), .int .i64 (r.2.1 : Int), .int .i64 r.2.2]
theorem or_low7 (x c j : Nat) (hx : x < 2 ^ (7 * j)) (hc : c < 128) (hj : j ≤ 9) (h9 : j = 9 → c ≤ 1) :
    bits .or .u64 (x : Int) (IntKind.u64.wrap ((c : Int) * 2 ^ (7 * j))) = ((x + c * 2 ^ (7 * j) : Nat) : Int) := by
  have hc' : c * 2 ^ (7 * j) < 18446744073709551616 := by
    rcases Nat.lt_or_ge j 9 with h | h
    · have h1 : c * 2 ^ (7 * j) < 128 * 2 ^ (7 * j) := Nat.mul_lt_mul_of_pos_right hc (Nat.two_pow_pos _)
      have h2 : 128 * 2 ^ (7 * j) = 2 ^ (7 * (j + 1)) := by rw [pow7, Nat.mul_comm]
      have h3 : 2 ^ (7 * (j + 1)) ≤ 2 ^ 63 := Nat.pow_le_pow_right (by omega) (by omega)
      omega
    · have : j = 9 := by omega
      subst this
      have := h9 rfl
      have : (2 : Nat) ^ (7 * 9) = 9223372036854775808 := rfl
      rw [this]
      omega
  have hx' : x < 18446744073709551616 := Nat.lt_of_lt_of_le hx (show 2 ^ (7 * j) ≤ 2 ^ 64 from Nat.pow_le_pow_right (by omega) (by omega))
  have e : ((c : Int) * 2 ^ (7 * j)) = ((c * 2 ^ (7 * j) : Nat) : Int) := by simp
  have ew : IntKind.u64.wrap ((c * 2 ^ (7 * j) : Nat) : Int) = ((c * 2 ^ (7 * j) : Nat) : Int) := by
    rw [IntKind.wrap_u64]
    generalize c * 2 ^ (7 * j) = M at *
    omega
  rw [e, ew, u64_or_nat x _ hx' hc', Nat.or_comm, Nat.add_comm x]
  congr 1
  exact nat_join (7 * j) _ _ (by simp) hx
theorem vget_drop (l : List UInt8) (j X : Nat) (h : j < l.length) : vget j X (l.drop j) =
    if (0 < j ∧ (l.getD j 0).toNat = 0) ∨ (j = 9 ∧ 1 < (l.getD j 0).toNat) then (0, 0, 1) else if (l.getD j 0).toNat < 128 then (X + (l.getD j 0).toNat * 2 ^ (7 * j), j + 1, 0) else vget (j + 1) (X + (l.getD j 0).toNat % 128 * 2 ^ (7 * j)) (l.drop (j + 1)) := by
  rw [List.drop_eq_getElem_cons h, vget_cons]
  simp [List.getD, List.getElem?_eq_getElem h]
theorem acc_lt (X c j : Nat) (hX : X < 2 ^ (7 * j)) : X + c % 128 * 2 ^ (7 * j) < 2 ^ (7 * (j + 1)) := by
  rw [pow7]
  have h1 : c % 128 * 2 ^ (7 * j) ≤ 127 * 2 ^ (7 * j) := Nat.mul_le_mul_right _ (by omega)
  omega
set_option maxRecDepth 100000 in
set_option maxHeartbeats 1000000 in
theorem get_any (A : Option Addr) (n c B : Nat) (l : List UInt8) (w : World) (hn : n ≤ 9223372036854775807) (hr : Rd w B 1 A n (bv l)) :
    Calls Try.prog 125 #[.slice A n c] w fun e w' => e = .returned (getV (vget 0 0 l)) ∧ w = w' := by
  have hl : l.length = n := by have := hr.len; rw [bv_length] at this; exact this
  go_enter Try.func125, Try.ntmps125
  go_wp2
  go_step3
  go_wp2
  go_step3
  go_wp2
  go_loop [5, 6] (fun x i => ∃ j X : Nat, j ≤ n ∧ j ≤ 9 ∧ i = .int .i64 j ∧ x = .int .u64 (X : Int) ∧ X < 2 ^ (7 * j) ∧ vget 0 0 l = vget j X (l.drop j)) (fun _ i => 10 - (intOf i).toNat)
  case atStart => exact ⟨0, 0, Nat.zero_le _, by omega, rfl, rfl, by decide, rfl⟩
  case round =>
    obtain ⟨j, X, hj, hj9, rfl, rfl, hX, hv⟩ := hrel
    by_cases hlt : j < n
    · rw [vget_drop l j X (by omega)] at hv
      obtain ⟨b, o, rfl, _, hc⟩ := hr.byte hlt
      have hcb := (l.getD j 0).toNat_lt
      have hacc := acc_lt X (l.getD j 0).toNat j hX
      generalize (l.getD j 0).toNat = y at *
      have hm : bits .and .u8 (y : Int) 127 = (y : Int) % 128 := bits_mask .u8 8 (by decide) wraps_u8 7 (by decide) y (by omega) (by omega)
      have hne : ((j : Int) == (n : Int)) = false := by simp; omega
      by_cases b1 : 0 < j ∧ y = 0
      · rw [if_pos (.inl b1)] at hv
        have HV := Lib.hid hv
        obtain ⟨a1, rfl⟩ := b1
        clear hv hacc hX
        go_wp2
        go_ret3
        exact ⟨by rw [HV.out]; rfl, rfl⟩
      · by_cases b2 : j = 9 ∧ 1 < y
        · rw [if_pos (.inr b2)] at hv
          have HV := Lib.hid hv
          obtain ⟨rfl, a2⟩ := b2
          have g1 : ((y : Int) == 0) = false := by simp; omega
          clear hv hacc hX b1
          go_wp2
          go_ret3
          exact ⟨by rw [HV.out]; rfl, rfl⟩
        · rw [if_neg (fun h => h.elim b1 b2)] at hv
          have b2n : j = 9 → y ≤ 1 := fun h => by
            rcases Nat.lt_or_ge 1 y with h1 | h1
            · exact absurd ⟨h, h1⟩ b2
            · exact h1
          have hor := or_low7 X (y % 128) j hX (by omega) hj9 (fun h => by have := b2n h; omega)
          clear b2n
          have e : ((y % 128 : Nat) : Int) = (y : Int) % 128 := by omega
          rw [e] at hor
          by_cases h128 : y < 128
          · rw [if_pos h128] at hv
            rw [show y % 128 = y by omega] at hor
            by_cases h9 : j = 9
            · subst h9
              have hy1 : y ≤ 1 := by
                rcases Nat.lt_or_ge 1 y with h1 | h1
                · exact absurd ⟨rfl, h1⟩ b2
                · exact h1
              have hp9 : (2 : Int) ^ (7 * 9) = 9223372036854775808 := rfl
              rw [hp9, IntWalk.u64_in _ (by omega)] at hor
              obtain ⟨Z, hZ⟩ : ∃ Z, X + y * 2 ^ (7 * 9) = Z := ⟨_, rfl⟩
              rw [hZ] at hor hv
              clear hZ
              have HV := Lib.hid hv
              have gy : ((y : Int) == 0) = false := by
                rw [beq_eq_false_iff_ne]; intro h; exact b1 ⟨by omega, by omega⟩
              have gy' : ¬ 1 < (y : Int) := by omega
              clear hv hacc hX e hp9 b1 b2
              go_wp2
              all_goals
                go_ret3
                exact ⟨by rw [HV.out]; rfl, rfl⟩
            · generalize X + y * 2 ^ (7 * j) = Z at *
              have HV := Lib.hid hv
              have h63 : ¬ (7 : Int) * (j : Int) = 63 := by omega
              clear hv hacc hX e b2
              go_wp2
              all_goals
                go_ret3
                exact ⟨by rw [HV.out]; rfl, rfl⟩
          · rw [if_neg h128] at hv
            have h9 : ¬ j = 9 := fun h => b2 ⟨h, by omega⟩
            have h63 : ¬ (7 : Int) * (j : Int) = 63 := by omega
            have hy0 : ((y : Int) == 0) = false := by simp; omega
            generalize X + y % 128 * 2 ^ (7 * j) = Z at *
            have HV := Lib.hid hv
            have HA := Lib.hid hacc
            clear hv hacc hX e b1 b2
            go_wp2
            all_goals
              go_round
              case rel => exact ⟨j + 1, Z, by omega, by omega, by go_num, rfl, HA.out, HV.out⟩
              case measure => simp [intOf]; omega
    · have hjn : j = n := by omega
      subst hjn
      rw [List.drop_of_length_le (by omega), vget_nil] at hv
      have HV := Lib.hid hv
      have hne : ((j : Int) == (j : Int)) = true := by simp
      clear hv hX
      go_wp2
      go_ret3
      exact ⟨by rw [HV.out]; rfl, rfl⟩
theorem vget_300 : vget 0 0 [172, 2, 9] = (300, 2, 0) := by decide
theorem vput_300 : vput 300 = [172, 2] := by rw [vput_big (by omega), vput_small (by omega)]; rfl
theorem put300 (w : World) : Calls Try.prog 122 #[.slice none 0 0, .int .u64 300] w fun e w' =>
    ∃ g c, e = .returned (.slice (some ⟨g, 0, none⟩) 2 c) ∧ w'.cell? ⟨g, 0, none⟩ = some (.int .u8 172) ∧ w'.cell? ⟨g, 1, none⟩ = some (.int .u8 2) ∧ Below w.heap.size w w' := by
  refine (put_any none 0 0 w.heap.size 300 [] w (by omega) (by omega) Rd.nil_ (Nat.le_refl _)).mono ?_
  rintro e w1 ⟨A, c, rfl, o, b⟩
  rw [List.nil_append, vput_300] at o ⊢
  rcases o.1.2 with ⟨_, h0⟩ | ⟨g, cap, cur, hv, _⟩
  · simp at h0
  · injection hv with hA
    subst hA
    exact ⟨g, c, rfl, o.1.cellAt 0 (by decide), o.1.cellAt 1 (by decide), b⟩
end Go.Proofs.Ytailbppddnegoaa
