/- Layer 5 (pack): the reader's Flags, of flags that were packed. -/
import Derived.Test.YtjlmbdhjpjbneaaP10
namespace Go.Proofs.Ytjlmbdhjpjbneaa
open Go.RowKit
set_option linter.unusedVariables false
set_option maxRecDepth 100000

theorem flV_bit (fl : List Bool) : ∀ m j, j < m → m ≤ 8 → flV fl m / 2 ^ j % 2 = if fl.getD j false = true then 1 else 0
  | 0, j, h, _ => by omega
  | m + 1, j, h, h8 => by
    have hlt := flV_lt fl m (by omega)
    simp only [flV]
    by_cases hj : j = m
    · subst hj
      by_cases hb : fl.getD j false = true
      · rw [if_pos ⟨by omega, hb⟩, if_pos hb, Nat.add_div_right _ (Nat.two_pow_pos j), Nat.div_eq_of_lt hlt]
      · rw [if_neg (fun h => hb h.2), if_neg hb, Nat.add_zero, Nat.div_eq_of_lt hlt]
    · have ih := flV_bit fl m j (by omega) (by omega)
      split
      · have e : 2 ^ m = 2 ^ j * (2 ^ (m - j - 1) * 2) := by
          rw [← Nat.pow_succ, ← Nat.pow_add]
          congr 1
          omega
        rw [e, Nat.add_mul_div_left _ _ (Nat.two_pow_pos j), Nat.add_mul_mod_self_right]
        exact ih
      · rw [Nat.add_zero]
        exact ih
theorem flV_min (fl : List Bool) : flV fl fl.length = flV fl (min fl.length 8) := by
  by_cases h : fl.length ≤ 8
  · rw [Nat.min_eq_left h]
  · rw [Nat.min_eq_right (by omega), flV_more fl _ (by omega)]
theorem flB_toNat (fl : List Bool) : (flB fl).toNat = flV fl (min fl.length 8) := by
  rw [← flV_min]
  have := flV_256 fl fl.length
  simp only [flB, UInt8.toNat_ofNat']
  omega
theorem and1_u8 : ∀ x : Fin 256, bits .and .u8 (x.1 : Int) 1 = ((x.1 % 2 : Nat) : Int) := by decide +kernel
/-- The flags read so far. -/
def fcL (fl : List Bool) (k j : Nat) : List Value := tv (fl.take j) ++ List.replicate (k - j) (.bool false)
theorem fcL_zero (fl : List Bool) (k : Nat) : fcL fl k 0 = List.replicate k (.bool false) := by simp [fcL, tv]
theorem fcL_full (fl : List Bool) (k : Nat) : fcL fl k k = tv (fl.take k) := by simp [fcL]
theorem fcL_at (fl : List Bool) (k j : Nat) (h : j < k) (hk : k ≤ fl.length) : (fcL fl k j)[j]? = some (.bool false) := by
  have hl : (tv (fl.take j)).length = j := by simp [tv]; omega
  rw [fcL, List.getElem?_append_right (by omega), hl, Nat.sub_self, List.getElem?_replicate, if_pos (by omega)]
theorem fcL_set (fl : List Bool) (k j : Nat) (h : j < k) (hk : k ≤ fl.length) : (fcL fl k j).set j (.bool (fl.getD j false)) = fcL fl k (j + 1) := by
  have hl : (tv (fl.take j)).length = j := by simp [tv]; omega
  unfold fcL
  rw [List.set_append_right _ _ (by omega), hl, Nat.sub_self]
  obtain ⟨r, hr⟩ : ∃ r, k - j = r + 1 := ⟨k - j - 1, by omega⟩
  rw [hr, List.replicate_succ, List.set_cons_zero, show k - (j + 1) = r by omega]
  have ht : fl.take (j + 1) = fl.take j ++ [fl.getD j false] := by
    rw [List.take_add_one, List.getElem?_eq_getElem (show j < fl.length by omega)]
    simp [List.getD, List.getElem?_eq_getElem (show j < fl.length by omega)]
  rw [ht]
  simp [tv]
theorem Try.info_bool : (Try.prog.info? 4).map (fun i => (i.zero, i.size, i.bytes)) = some (some (.bool false), 1, 1) := by kernel_rfl
/-- What reading flags hands back. -/
def FlEnd (w : World) (b : Nat) (R : List UInt8) (k : Nat) (fl : List Bool) (e : Ending) (w' : World) : Prop :=
  ∃ A n c FA fc, e = .returned (.slice FA k fc) ∧ Re w' b A n c R 0 ∧ Rd w' w'.heap.size 1 FA k (tv (fl.take k)) ∧ Ch (fun g => g = b) w w'
set_option maxHeartbeats 2000000 in
theorem rflags_put (fl : List Bool) (R : List UInt8) (w : World) (b : Nat) (A : Option Addr) (n c k : Nat) (h : Re w b A n c (flB fl :: R) 0) (hk : k = min fl.length 8) :
    Calls Try.prog 67 #[.pointer (some ⟨b, 0, none⟩), .int .i64 k] w (FlEnd w b R k fl) := by
  obtain ⟨i0, hi, hz0, hz1, hz2⟩ : ∃ i, Try.prog.info? 4 = some i ∧ i.zero = some (.bool false) ∧ i.size = 1 ∧ i.bytes = 1 := by
    have h := Try.info_bool
    cases hi : Try.prog.info? 4 with
    | none => rw [hi] at h; cases h
    | some i =>
      rw [hi] at h
      simp at h
      exact ⟨i, rfl, h.1, h.2.1, h.2.2⟩
  have C0 := Lib.hid (rmay_any w b A n c _ 0 h)
  have tt : ((0 : Int) == 0) = true := rfl
  rw [tt] at C0
  have hl := h.len
  simp only [List.length_cons] at hl
  have hk8 : k ≤ 8 := by omega
  have hkl : k ≤ fl.length := by omega
  have hF := flB_toNat fl
  rw [← hk] at hF
  have hVlt := flV_lt fl k hk8
  have h256 := (flB fl).toNat_lt
  obtain ⟨b1, o1, rfl, hb1, hcell⟩ := h.2.1.byte (l := flB fl :: R) (k := 0) (by omega)
  simp only [List.getD_cons_zero, Nat.add_zero] at hcell
  have hbit := fun j (hj : j < k) => flV_bit fl k j hj hk8
  rw [hF] at hcell h256
  generalize flV fl k = V at *
  have hc0 := h.cell0
  have hc1 := h.cell1
  have hf1 := h.1.free 1
  have hlt := h.1.lt
  have q1 : ¬ ((k : Int) < 0) := by omega
  have q2 : ¬ ((8 : Int) < (k : Int)) := by omega
  have q2' : decide ((8 : Int) < (k : Int)) = false := by simp; omega
  have q3 : ((n : Int) == 0) = false := by simp; omega
  have q4 : V / 2 ^ k = 0 := Nat.div_eq_of_lt hVlt
  have q4' : (V : Int) / 2 ^ k = 0 := by
    have : ((V / 2 ^ k : Nat) : Int) = 0 := by rw [q4]; rfl
    simpa using this
  have q5 : 0 < n := by omega
  have H := Lib.hid h
  clear h hk hF hl
  go_enter Try.func67, Try.ntmps67
  go_wp2_with fail
  refine (C0.out).mono ?_; rintro e w1 ⟨rfl, rfl⟩
  go_wp2_with (at_make; refine wpList_make_full _ rfl _ _ 68 rfl w.heap.size 4 i0 (.bool false) 1 Try.underlying68 hi hz0 hz1 _ _ _ _ k rfl rfl (by omega) (by omega) (by rw [hz2]; omega) (by simp only [maxLen]; omega) (Nat.le_refl _) ?_; intro w1 hown hgrow)
  have hmade : w1.ownsRow w.heap.size 4 1 (.slice (some ⟨w.heap.size, 0, none⟩) k k) k (fcL fl k 0) := by
    rw [fcL_zero]
    rw [show (Value.bool false).cells = #[Value.bool false] from rfl, Nat.mul_one, toList_madeCells_one] at hown
    exact hown
  have hb1' : Below w.heap.size w w1 := (Below.refl _ _).grown hgrow (Nat.le_refl _) (by simp)
  have hsz : w.heap.size < w1.heap.size := (hmade.lt w.heap.size rfl).2
  have R1 := Lib.hid (H.out.1.below hb1' hlt)
  clear hown hgrow hi hz0 hz1 hz2
  go_loopw [53] (fun i wr => ∃ j : Nat, j ≤ k ∧ i = .int .i64 j ∧ wr.ownsRow w.heap.size 4 1 (.slice (some ⟨w.heap.size, 0, none⟩) k k) k (fcL fl k j) ∧ Below w.heap.size w wr) (fun i _ => k - (intOf i).toNat)
  case atStart => exact ⟨0, Nat.zero_le _, rfl, hmade, hb1'⟩
  case round =>
    obtain ⟨j, hj, rfl, hown, hb⟩ := hrel
    have hwb := H.out.1.below hb hlt
    have hcb : wr.cell? ⟨b, 0, none⟩ = some (.slice (some ⟨b1, o1, none⟩) n c) := by rw [hwb.cell]; rfl
    have hfb := hwb.free 0
    have hcv : wr.cell? ⟨b1, o1, none⟩ = some (.int .u8 (V : Int)) := by rw [hb.cell (by simp only; omega)]; exact hcell
    by_cases hltj : j < k
    · have hcj : wr.cell? ⟨w.heap.size, j, none⟩ = some (.bool false) := by rw [hown.cellAt j (by omega), fcL_at fl k j hltj hkl]
      have hfj : wr.frozen? ⟨w.heap.size, j, none⟩ = false := hown.frozenAt j
      have hst := hown.stored j (.bool (fl.getD j false))
      rw [fcL_set fl k j hltj hkl] at hst
      have HST := Lib.hid hst
      have hbj := hbit j hltj
      have hVj : V / 2 ^ j < 256 := Nat.lt_of_le_of_lt (Nat.div_le_self _ _) (by omega)
      have hand := and1_u8 ⟨V / 2 ^ j, hVj⟩
      simp only at hand
      rw [hbj] at hand
      clear hst
      cases hbl : fl.getD j false
      · rw [hbl] at hand HST
        simp only [Bool.false_eq_true, if_false] at hand
        have hand' : bits .and .u8 ((V : Int) / 2 ^ j) 1 = 0 := by simpa using hand
        go_wp2
        go_roundw
        case rel => exact ⟨j + 1, by omega, by go_num, HST.out.1, hb.grown HST.out.2 hb.size (by intro g hg; injection hg with hg; omega)⟩
        case measure => simp [intOf]; omega
      · rw [hbl] at hand HST
        simp only [if_true] at hand
        have hand' : bits .and .u8 ((V : Int) / 2 ^ j) 1 = 1 := by simpa using hand
        go_wp2
        go_roundw
        case rel => exact ⟨j + 1, by omega, by go_num, HST.out.1, hb.grown HST.out.2 hb.size (by intro g hg; injection hg with hg; omega)⟩
        case measure => simp [intOf]; omega
    · obtain rfl : j = k := by omega
      rw [fcL_full] at hown
      have hs1 : ∀ w, (sizeOf (Try.prog.elem 62)).run Try.prog w = .ok 1 w := fun w => by kernel_rfl
      have hfrom : ∀ w, (Instr.slice 62 (.slice (some ⟨b1, o1, none⟩) n c) (some (.int .i64 1)) none none).run Try.prog w = .ok (.slice (cutA (some ⟨b1, o1, none⟩) c 1) (n - 1) (c - 1)) w := fun w => run_from (P := Try.prog) 62 (by kernel_rfl) hs1 (some ⟨b1, o1, none⟩) n c 1 (by omega) w
      have hnc := H.out.2.2.1
      have hcm : c ≤ 9223372036854775807 := H.out.2.2.2
      have hR : Re wr b (some ⟨b1, o1, none⟩) n c (flB fl :: R) 0 := ⟨hwb, H.out.2.1.below (below_of_le hb (Nat.le_of_lt hlt)), H.out.2.2⟩
      have hr2 : Rd wr b 1 (cutA (some ⟨b1, o1, none⟩) c 1) (n - 1) (bv R) := by
        have := hR.2.1.cutA_ (k := 1) (by omega) hnc
        rw [← bv_drop] at this
        exact this
      have hh : n - 1 ≤ c - 1 := by omega
      have hh2 : c - 1 ≤ maxLen := by simp only [maxLen]; omega
      have HRR := Lib.hid hR
      have HO := Lib.hid hown
      clear hR hs1 hown
      generalize cutA (some ⟨b1, o1, none⟩) c 1 = A2 at *
      generalize n - 1 = n2 at *
      generalize c - 1 = c2 at *
      go_wp2
      go_ret
      refine ⟨A2, n2, c2, some ⟨w.heap.size, 0, none⟩, j, rfl, HRR.out.set0 hr2 hh hh2, ?_, (below_ch hb (S := fun g => g = b)).trans (Ch.set_ _ ⟨b, 0, none⟩ _) (fun k _ h => h)⟩
      have ho : Own wr w.heap.size 4 1 (some ⟨w.heap.size, 0, none⟩) j j (tv (fl.take j)) := ⟨HO.out, Nat.le_refl _, by simp only [maxLen]; omega⟩
      exact (ho.far (by rw [ownBlock_bl]; simp [bl]; omega) _).rd
end Go.Proofs.Ytjlmbdhjpjbneaa
