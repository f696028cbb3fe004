/- Layer 4 (frame): the walk of the law FrameScans. -/
import Derived.Test.YtjlmbdhjpjbneaaF14
import Derived.Test.YtjlmbdhjpjbneaaF9
namespace Go.Proofs.Ytjlmbdhjpjbneaa
open Go.RowKit
set_option linter.unusedVariables false
set_option maxRecDepth 100000

theorem rows_at {w : World} {B n k : Nat} {A : Option Addr} {F : Nat → Row1} (h : Rd w B 1 A n ((List.range n).map fun i => (F i).val)) (hk : k < n) :
    ∃ b o, A = some ⟨b, o, none⟩ ∧ b < B ∧ w.cell? ⟨b, o + k, none⟩ = some (.slice (F k).A (F k).n (F k).c) := by
  obtain ⟨b, o, u, e, hb, hx, hc⟩ := h.at_ hk
  refine ⟨b, o, e, hb, ?_⟩
  rw [hc, ← hx]
  simp [List.getElem?_range hk, Row1.val]
theorem frameScans_far (w : World) (A A' : Option Addr) (n c m c' : Nat) (k : Int) (h : 20 < n ∨ 1000 < m) :
    Calls Try.prog 12 #[.slice A n c, .int .i64 k, .slice A' m c'] w fun e w' => e = .returned (.bool true) ∧ Below w.heap.size w w' := by
  have C9 := Lib.hid awake04_any
  by_cases h1 : 20 < n
  · clear h
    go_enter Try.func12, Try.ntmps12
    go_wp2_with fail
    refine (C9.out _).mono ?_; rintro e w2 ⟨rfl, hb2⟩
    go_wp2
    go_ret
    exact ⟨rfl, hb2⟩
  · have h2 : 1000 < m := by omega
    clear h
    go_enter Try.func12, Try.ntmps12
    go_wp2_with fail
    refine (C9.out _).mono ?_; rintro e w2 ⟨rfl, hb2⟩
    go_wp2
    go_ret
    exact ⟨rfl, hb2⟩
/-- Between two rounds: the frames of the first j; W of them are whole ahead of the cut. -/
def FsAt (w : World) (n : Nat) (k : Int) (L : List (List UInt8)) (x y z i : Value) (wr : World) : Prop :=
  ∃ (j W E : Nat) (A1 : Option Addr) (N1 c1 : Nat), j ≤ n ∧ i = .int .i64 j ∧ x = .slice A1 N1 c1 ∧ N1 = (fcat (L.take j)).length ∧ y = .int .i64 (W : Int) ∧ z = .int .i64 (E : Int) ∧ W ≤ j ∧ E = (fcat (L.take W)).length ∧ (0 < W → (E : Int) ≤ k) ∧
    (∀ i, i ≤ j → W < i → k < ((fcat (L.take i)).length : Int)) ∧ Rd wr wr.heap.size 1 A1 N1 (bv (fcat (L.take j))) ∧ N1 ≤ c1 ∧ c1 ≤ maxLen ∧ (∀ l ∈ L.take j, l.length ≤ 200) ∧ Below w.heap.size w wr
set_option maxHeartbeats 4000000 in
theorem frameScans_near (w : World) (A A' : Option Addr) (n c m c' : Nat) (F : Nat → Row1) (l : List UInt8) (k : Int) (hr : Rd w w.heap.size 1 A n ((List.range n).map fun i => (F i).val)) (hF : ∀ i, i < n → (F i).ok w) (hnc : n ≤ c) (hcm : c ≤ maxLen)
    (hr' : Rd w w.heap.size 1 A' m (bv l)) (hmc : m ≤ c') (hmm : c' ≤ maxLen) (hn : n ≤ 20) (hm : m ≤ 1000) (k1 : -9223372036854775808 ≤ k) (k2 : k ≤ 9223372036854775807) :
    Calls Try.prog 12 #[.slice A n c, .int .i64 k, .slice A' m c'] w fun e w' => e = .returned (.bool true) ∧ Below w.heap.size w w' := by
  have el : l.length = m := by have := hr'.len; rwa [bv_length] at this
  have hcm' : c ≤ 9223372036854775807 := hcm
  have hmm' : c' ≤ 9223372036854775807 := hmm
  have C9 := Lib.hid awake04_any
  have HC1 := Lib.hid (fun (w : World) A A' n m c c' lb l hr hr' hn hm => fput_any A A' n m c c' lb l w hr hr' hn hm)
  have HC2 := Lib.hid (fun (w : World) A n c l hr hn hnc hcm => fscan_any A n c l w hr hn hnc hcm)
  obtain ⟨q1, q2, q3⟩ := sc_bound (l.length + 1) l
  have C5' := fun (w1 : World) (h : Rd w1 w1.heap.size 1 A' m (bv l)) => fscan_any A' m c' l w1 h (by omega) hmc hmm
  have C6' := fun (w1 : World) (h : Rd w1 w1.heap.size 1 A' m (bv l)) => rfscan_any A' m c' l w1 h (by omega) hmc hmm
  unfold ScE sc at C5' C6'
  have hsl : (scF (l.length + 1) l).1.length ≤ 1000 := by omega
  have hsl2 : ∀ x ∈ (scF (l.length + 1) l).1, x.length ≤ 1000000000 := fun x hx => by have := q3 x hx; omega
  clear q1 q2 q3 el
  generalize scF (l.length + 1) l = SR at *
  obtain ⟨SL, SN⟩ := SR
  simp only at C5' C6' hsl hsl2
  have C5 := Lib.hid C5'
  have C6 := Lib.hid C6'
  clear C5' C6'
  obtain ⟨L, hL⟩ : ∃ L, (List.range n).map (fun i => (F i).l) = L := ⟨_, rfl⟩
  have hLl : L.length = n := by rw [← hL]; simp
  have hLg : ∀ j, j < n → L.getD j [] = (F j).l := fun j hj => by rw [← hL]; simp [List.getD, hj]
  have hrows : ∀ j, j < n → (F j).l.length = (F j).n := fun j hj => by have := (hF j hj).2.2.len; rwa [bv_length] at this
  have HR := Lib.hid hr
  have HF := Lib.hid hF
  have hs1 : ∀ w, (sizeOf (Try.prog.elem 62)).run Try.prog w = .ok 1 w := fun w => by kernel_rfl
  have hs2 : ∀ w, (sizeOf (Try.prog.elem 94)).run Try.prog w = .ok 1 w := fun w => by kernel_rfl
  have HS1 := Lib.hid (run_to (P := Try.prog) 62 (by kernel_rfl) hs1)
  have HS2 := Lib.hid (run_to (P := Try.prog) 94 (by kernel_rfl) hs2)
  have d2 : decide ((1000 : Int) < (m : Int)) = false := by simp; omega
  have d1 : decide ((20 : Int) < (n : Int)) = false := by simp; omega
  clear hs1 hs2 hL hF hr
  go_enter Try.func12, Try.ntmps12
  go_wp2
  go_loopw [7, 8, 9, 10] (fun x y z i wr => FsAt w n k L x y z i wr) (fun _ _ _ i _ => n - (intOf i).toNat)
  case atStart => exact ⟨0, 0, 0, some ⟨w.heap.size, 0, none⟩, 0, 0, by omega, rfl, rfl, by simp [fcat], rfl, rfl, by omega, by simp [fcat], by omega, by omega, ⟨rfl, fun h => absurd h (by simp)⟩, by omega, by simp [maxLen], by simp, (Below.refl _ _).alloc (Nat.le_refl _) _⟩
  case round =>
    obtain ⟨j, W, E, A1, N1, c1, hj, rfl, rfl, hN1, rfl, rfl, hWj, hE, hEk, hkW, r1, hn1, hc1, h200, hb⟩ := hrel
    have hc1' : c1 ≤ 9223372036854775807 := hc1
    have hfl := fcat_len _ h200
    rw [List.length_take] at hfl
    by_cases hlt : j < n
    · obtain ⟨b, o, hA, hbb, hcell⟩ := rows_at (HR.out.below hb) hlt
      have hok := HF.out j hlt
      have hlj := hrows j hlt
      by_cases h2 : 200 < (F j).n
      · have t2 : (200 : Int) < ((F j).n : Int) := by omega
        clear hok
        generalize F j = R at *
        obtain ⟨Rn, Rnn, Rc, Rl⟩ := R
        simp only at *
        subst hA
        go_wp2_with fail
        refine (C9.out _).mono ?_; rintro e w2 ⟨rfl, b2⟩
        go_wp2
        go_ret
        exact ⟨rfl, below_step hb b2⟩
      · have t2 : ¬ ((200 : Int) < ((F j).n : Int)) := by omega
        have hsn := fcat_snoc L j (by omega)
        rw [hLg j hlt] at hsn
        have hfr := frm_len' (F j).l
        have hvs := vsize_le (F j).l.length (by omega)
        have rrow := (hok.2.2.below hb).more hb.size
        have C1' := HC1.out wr A1 (F j).A N1 (F j).n c1 (F j).c (fcat (L.take j)) (F j).l r1 rrow (by omega) (by omega)
        rw [← hsn] at C1'
        have C1 := Lib.hid C1'
        have h200' : ∀ l ∈ L.take (j + 1), l.length ≤ 200 := by
          intro x hx
          rw [List.take_succ_eq_append_getElem (by omega)] at hx
          rcases List.mem_append.1 hx with hx | hx
          · exact h200 x hx
          · have hgj := hLg j hlt
            simp [List.getD, List.getElem?_eq_getElem (show j < L.length by omega)] at hgj
            simp at hx
            rw [hx, hgj]
            omega
        have H200 := Lib.hid h200'
        have hN2 : (fcat (L.take (j + 1))).length = N1 + (frm (F j).l).length := by rw [hsn, List.length_append, hN1]
        clear hok C1' rrow hsn h200 h200' r1
        generalize frm (F j).l = FR at *
        generalize F j = R at *
        obtain ⟨Rn, Rnn, Rc, Rl⟩ := R
        simp only at *
        subst hA
        generalize hN3 : (fcat (L.take (j + 1))).length = N3 at *
        have HN3 := Lib.hid hN3
        have HKW := Lib.hid hkW
        have HEK := Lib.hid hEk
        have HE := Lib.hid hE
        clear hN3 hkW hE hN1 hN2 hfr hvs hlj
        by_cases hcut : (N3 : Int) ≤ k
        · go_wp2_with fail
          refine (C1.out).mono ?_; rintro e w2 ⟨A2, c2, rfl, o2, b2⟩
          rw [HN3.out] at o2 ⊢
          go_wp2
          go_roundw
          case rel => exact ⟨j + 1, j + 1, N3, A2, N3, c2, by omega, by go_num, rfl, HN3.out.symm, by go_num, rfl, by omega, HN3.out.symm, fun _ => hcut, fun i h1 h2 => by omega, o2.rd, o2.2.1, o2.2.2, H200.out, below_step hb b2⟩
          case measure => simp [intOf]; omega
        · go_wp2_with fail
          refine (C1.out).mono ?_; rintro e w2 ⟨A2, c2, rfl, o2, b2⟩
          rw [HN3.out] at o2 ⊢
          go_wp2
          go_roundw
          case rel =>
            refine ⟨j + 1, W, E, A2, N3, c2, by omega, by go_num, rfl, HN3.out.symm, rfl, rfl, by omega, HE.out, HEK.out, fun i h1 h2 => ?_, o2.rd, o2.2.1, o2.2.2, H200.out, below_step hb b2⟩
            by_cases hi : i = j + 1
            · subst hi; rw [HN3.out]; omega
            · exact HKW.out i (by omega) h2
          case measure => simp [intOf]; omega
    · obtain rfl : j = n := by omega
      rw [List.take_of_length_le (by omega)] at hN1 r1 h200 hfl
      have hbz := hb.size
      by_cases hk0 : k < 0
      · have t3 : decide ((0 : Int) ≤ k) = false := by simp; omega
        have B4 := Lib.hid hb
        clear r1 hEk hkW hE hN1 HC1 HC2 HS1 HS2
        go_wp2_with fail
        refine (C5.out _ ((hr'.below B4.out).more B4.out.size)).mono ?_; rintro e w6 ⟨A6, c6, u6, rfl, o6, ob6, b6⟩
        have B6 := Lib.hid (below_step B4.out b6)
        have O6 := Lib.hid o6
        have OB6 := Lib.hid ob6
        clear o6 ob6 b6 B4 C5
        go_wp2_with fail
        refine (C6.out _ ((hr'.below B6.out).more B6.out.size)).mono ?_; rintro e w7 ⟨A7, c7, u7, rfl, o7, ob7, b7⟩
        have CS7 := Lib.hid (rsame04_any SL A6 A7 SL.length SL.length c6 c7 u6 u7 w7 (by omega) ((O6.out.rd.below b7).more b7.size) o7.rd (OB6.out.below b7).rd ob7.rd hsl2)
        have B7 := Lib.hid (below_step B6.out b7)
        clear o7 ob7 b7 B6 C6 O6 OB6
        have tmm : ((SN : Int) == (SN : Int)) = true := by simp
        go_wp2_with fail
        refine (CS7.out).mono ?_; rintro e w8 ⟨rfl, b8⟩
        go_wp2_with fail
        refine (C9.out _).mono ?_; rintro e w9 ⟨rfl, b9⟩
        go_wp2
        go_ret
        exact ⟨rfl, below_step B7.out (below_step b8 b9)⟩
      · obtain ⟨K, rfl⟩ := Int.eq_ofNat_of_zero_le (show 0 ≤ k by omega)
        by_cases hkn : N1 < K
        · have t3 : decide ((0 : Int) ≤ (K : Int)) = true := by simp
          have t4 : ¬ ((K : Int) ≤ (N1 : Int)) := by omega
          have B4 := Lib.hid hb
          clear r1 hEk hkW hE hN1 HC1 HC2 HS1 HS2
          go_wp2_with fail
          refine (C5.out _ ((hr'.below B4.out).more B4.out.size)).mono ?_; rintro e w6 ⟨A6, c6, u6, rfl, o6, ob6, b6⟩
          have B6 := Lib.hid (below_step B4.out b6)
          have O6 := Lib.hid o6
          have OB6 := Lib.hid ob6
          clear o6 ob6 b6 B4 C5
          go_wp2_with fail
          refine (C6.out _ ((hr'.below B6.out).more B6.out.size)).mono ?_; rintro e w7 ⟨A7, c7, u7, rfl, o7, ob7, b7⟩
          have CS7 := Lib.hid (rsame04_any SL A6 A7 SL.length SL.length c6 c7 u6 u7 w7 (by omega) ((O6.out.rd.below b7).more b7.size) o7.rd (OB6.out.below b7).rd ob7.rd hsl2)
          have B7 := Lib.hid (below_step B6.out b7)
          clear o7 ob7 b7 B6 C6 O6 OB6
          have tmm : ((SN : Int) == (SN : Int)) = true := by simp
          go_wp2_with fail
          refine (CS7.out).mono ?_; rintro e w8 ⟨rfl, b8⟩
          go_wp2_with fail
          refine (C9.out _).mono ?_; rintro e w9 ⟨rfl, b9⟩
          go_wp2
          go_ret
          exact ⟨rfl, below_step B7.out (below_step b8 b9)⟩
        · have t3 : decide ((0 : Int) ≤ (K : Int)) = true := by simp
          have t4 : (K : Int) ≤ (N1 : Int) := by omega
          have hEk' : E ≤ K := by
            rcases Nat.eq_zero_or_pos W with h0 | h0
            · subst h0; simp [fcat] at hE; omega
            · have := hEk h0; omega
          have hsc := sc_cut L (fun l hl => by have := h200 l hl; omega) K W (by omega) (by omega) (by omega) (fun hW => by have := hkW (W + 1) (by omega) (by omega); omega)
          rw [← hE] at hsc
          have C2' := HC2.out wr A1 K c1 ((fcat L).take K) (by rw [bv_take]; exact r1.front (by omega)) (by omega) (by omega) hc1
          rw [hsc] at C2'
          unfold ScE at C2'
          simp only at C2'
          have hlW : (L.take W).length = W := by rw [List.length_take]; omega
          rw [hlW] at C2'
          have C2 := Lib.hid C2'
          have hto1 := HS1.out A1 N1 c1 K (by omega)
          have hto2 := HS2.out A j c W (by omega)
          have hrw : Rd w w.heap.size 1 A W (((List.range j).map fun i => (F i).val).take W) := HR.out.front (by omega)
          have hRB : RdBs w (((List.range j).map fun i => (F i).val).take W) (L.take W) := by
            refine ⟨by simp; omega, fun i u x hu hx => ?_⟩
            rw [List.getElem?_take] at hu hx
            by_cases hi : i < W
            · rw [if_pos hi] at hu hx
              have hij : i < j := by omega
              simp [hij] at hu
              have hgi := hLg i hij
              simp [List.getD, hx] at hgi
              subst hu hgi
              have hoki := HF.out i hij
              have hli := hrows i hij
              exact ⟨(F i).A, (F i).c, by rw [hli]; rfl, by rw [hli]; exact hoki.2.2⟩
            · rw [if_neg hi] at hu; cases hu
          have HRW := Lib.hid hrw
          have HRB := Lib.hid hRB
          have hW200 : ∀ l ∈ L.take W, l.length ≤ 1000000000 := fun l hl => by have := h200 l (List.mem_of_mem_take hl); omega
          have HW200 := Lib.hid hW200
          have tE : ((E : Int) != (E : Int)) = false := by simp
          clear r1 hEk hkW hE hN1 hsc C2' hrw hRB hW200 HC1 HC2 HS1 HS2 h200
          go_wp2_with fail
          refine (C2.out).mono ?_; rintro e w3 ⟨A3, c3, u3, rfl, o3, ob3, b3⟩
          have B3 := Lib.hid (below_step hb b3)
          have CS3 := Lib.hid (rsame04_any (L.take W) A3 A W W c3 c u3 _ w3 (by omega) o3.rd ((HRW.out.below B3.out).more B3.out.size) ob3.rd (HRB.out.below B3.out) HW200.out)
          clear o3 ob3 b3 C2
          go_wp2_with fail
          refine (CS3.out).mono ?_; rintro e w4 ⟨rfl, b4⟩
          have B4 := Lib.hid (below_step B3.out b4)
          clear b4 B3 CS3
          go_wp2_with fail
          refine (C5.out _ ((hr'.below B4.out).more B4.out.size)).mono ?_; rintro e w6 ⟨A6, c6, u6, rfl, o6, ob6, b6⟩
          have B6 := Lib.hid (below_step B4.out b6)
          have O6 := Lib.hid o6
          have OB6 := Lib.hid ob6
          clear o6 ob6 b6 B4 C5
          go_wp2_with fail
          refine (C6.out _ ((hr'.below B6.out).more B6.out.size)).mono ?_; rintro e w7 ⟨A7, c7, u7, rfl, o7, ob7, b7⟩
          have CS7 := Lib.hid (rsame04_any SL A6 A7 SL.length SL.length c6 c7 u6 u7 w7 (by omega) ((O6.out.rd.below b7).more b7.size) o7.rd (OB6.out.below b7).rd ob7.rd hsl2)
          have B7 := Lib.hid (below_step B6.out b7)
          clear o7 ob7 b7 B6 C6 O6 OB6
          have tmm : ((SN : Int) == (SN : Int)) = true := by simp
          go_wp2_with fail
          refine (CS7.out).mono ?_; rintro e w8 ⟨rfl, b8⟩
          go_wp2_with fail
          refine (C9.out _).mono ?_; rintro e w9 ⟨rfl, b9⟩
          go_wp2
          go_ret
          exact ⟨rfl, below_step B7.out (below_step b8 b9)⟩
theorem frameScans_law (w : World) {v v' : Value} {k : Int} (hv : IsRows w v) (wk : (Lit.int .i64 k).wf = true) (hv' : IsBytes w v') :
    Calls Try.prog 12 #[v, .int .i64 k, v'] w fun e w' => e = .returned (.bool true) ∧ Below w.heap.size w w' := by
  obtain ⟨A, n, c, F, rfl, hnc, hcm, hr, hF⟩ := hv
  obtain ⟨A', m, c', l, rfl, hmc, hcm', hr'⟩ := hv'
  obtain ⟨f, f'⟩ := bounds_i64 wk
  by_cases h : 20 < n ∨ 1000 < m
  · exact frameScans_far w A A' n c m c' k h
  · exact frameScans_near w A A' n c m c' F l k hr hF hnc hcm hr' hmc hcm' (by omega) (by omega) (by omega) (by omega)
end Go.Proofs.Ytjlmbdhjpjbneaa
