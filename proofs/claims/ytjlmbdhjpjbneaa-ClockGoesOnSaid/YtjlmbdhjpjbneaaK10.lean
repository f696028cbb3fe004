/- Layer 19 (clock): the walk of the law ClockGoesOn. -/
import Derived.Test.YtjlmbdhjpjbneaaK8
namespace Go.Proofs.Ytjlmbdhjpjbneaa
open Go.RowKit
set_option linter.unusedVariables false
set_option maxRecDepth 100000

theorem Try.info_st : (Try.prog.info? 43).map (fun i => (i.zero, i.size, i.bytes)) = some (some (.agg #[.int .i64 0, .int .i64 0, .int .i64 0]), 3, 24) := by kernel_rfl
theorem info_parts_v {P : Program} {t : TypeId} {z : Value} {s b : Nat} (h : (P.info? t).map (fun i => (i.zero, i.size, i.bytes)) = some (some z, s, b)) : ∃ i, P.info? t = some i ∧ i.zero = some z ∧ i.size = s ∧ i.bytes = b := by
  cases hi : P.info? t with
  | none => rw [hi] at h; cases h
  | some i =>
    rw [hi] at h
    simp at h
    exact ⟨i, rfl, h.1, h.2.1, h.2.2⟩
theorem rd_fresh3 (w : World) (x y z : Value) (e : TypeId) : Rd (w.alloc (.cells #[x, y, z] e)) (w.heap.size + 1) 3 (some ⟨w.heap.size, 0, none⟩) 1 [x, y, z] := by
  refine ⟨rfl, fun _ => ⟨w.heap.size, 0, rfl, by omega, fun j u hu => ?_⟩⟩
  rw [cell_of_row _ _ _ #[x, y, z] e (0, 0) (heap_alloc_new w _), Nat.zero_add, ← hu]
  simp
theorem own_e3 (w : World) (e : TypeId) (base : Nat) (h : base ≤ w.heap.size) : Own (w.alloc (.cells #[] e)) base e 3 (some ⟨w.heap.size, 0, none⟩) 0 0 [] :=
  Own.base_le (b' := base) (base := w.heap.size) ⟨World.ownsRow_lit _ #[] 0 (Nat.le_refl _) (by simp [maxLen]) rfl, Nat.le_refl _, by simp [maxLen]⟩ h
/-- The stamps met so far: none is above the last one. -/
def Met (xs : List Value) (k : Nat) (a b : Int) : Prop :=
  xs.length = k * 3 ∧ ∀ i, i < k → ∃ x y z : Int, xs[i * 3]? = some (.int .i64 x) ∧ xs[i * 3 + 1]? = some (.int .i64 y) ∧ xs[i * 3 + 2]? = some (.int .i64 z) ∧ (x < a ∨ x = a ∧ y ≤ b)
theorem Met.more {xs : List Value} {k : Nat} {a b a' b' : Int} (h : Met xs k a b) (hl : a < a' ∨ a = a' ∧ b ≤ b') : Met xs k a' b' :=
  ⟨h.1, fun i hi => by
    obtain ⟨x, y, z, h1, h2, h3, h4⟩ := h.2 i hi
    exact ⟨x, y, z, h1, h2, h3, by omega⟩⟩
theorem Met.push {xs : List Value} {k : Nat} {a b x y z : Int} (h : Met xs k a b) (hl : x < a ∨ x = a ∧ y ≤ b) : Met (xs ++ [.int .i64 x, .int .i64 y, .int .i64 z]) (k + 1) a b := by
  refine ⟨by simp [h.1]; omega, fun i hi => ?_⟩
  have hlen := h.1
  by_cases hk : i < k
  · obtain ⟨x', y', z', h1, h2, h3, h4⟩ := h.2 i hk
    refine ⟨x', y', z', ?_, ?_, ?_, h4⟩ <;> rw [List.getElem?_append_left (by omega)] <;> assumption
  · obtain rfl : i = k := by omega
    refine ⟨x, y, z, ?_, ?_, ?_, hl⟩ <;> rw [List.getElem?_append_right (by omega)]
    · simp [show i * 3 - xs.length = 0 by omega]
    · simp [show i * 3 + 1 - xs.length = 1 by omega]
    · simp [show i * 3 + 2 - xs.length = 2 by omega]
theorem stL_of {x y z a b c pa pb pc : Int} (h1 : x < a ∨ x = a ∧ y ≤ b) (h2 : a < pa ∨ a = pa ∧ b < pb) : stL x y z pa pb pc = true := by
  unfold stL
  repeat' split
  all_goals simp
  all_goals omega
set_option maxHeartbeats 4000000 in
theorem clockGoesOn_in (w : World) (D : Nat) (hD : D < 256) (A : Option Addr) (n c : Nat) (f : Nat → Nat → Int) (hr : Recs w w.heap.size 5 A n f) (hf : ∀ i j, i64B (f i j)) (hn : n ≤ 100) :
    Calls Try.prog 4 #[.int .u8 D, .slice A n c] w fun e w' => e = .returned (.bool true) ∧ Below w.heap.size w w' := by
  obtain ⟨i0, hi, hz0, hz1, hz2⟩ := info_parts_v Try.info_st
  have hd : inB ((D : Int) % 64) 63 = true := by simp [inB]; omega
  have C0 := Lib.hid (cnew_yes ((D : Int) % 64) hd w)
  have C1 := Lib.hid (fun W a b m hW hm w1 h => tick_any W a b ((D : Int) % 64) m hW hm w1 w.heap.size h)
  have C2 := Lib.hid (fun W a b hb w1 h => cnext_any W a b ((D : Int) % 64) hb w1 w.heap.size h)
  have C3 := Lib.hid (fun W a b x y z hW w1 h => hear2_any W a b ((D : Int) % 64) x y z hW w1 w.heap.size h)
  have C4 := Lib.hid (fun W a b x y z w1 h => restore_any W a b ((D : Int) % 64) x y z w1 w.heap.size h)
  have CL := Lib.hid (fun a b c a' b' c' w1 => rcless_any a b c a' b' c' w1)
  have C9 := Lib.hid awake19_any
  have hI0 : Inv 0 0 0 ((D : Int) % 64) := ⟨by unfold wallB; omega, by unfold wallB; omega, by omega, hd⟩
  clear hd
  generalize hN : w.heap.size = N at *
  unfold gp at *
  unfold stV at C2 C3 C4 CL
  go_enter Try.func4, Try.ntmps4
  go_wp2_with fail
  refine (C0.out).mono ?_; rintro e w1 ⟨rfl, k1, b1⟩
  have hl1 := k1.lt
  have K2 := Lib.hid (show Ck _ N 0 0 0 ((D : Int) % 64) from Whole.alloc k1 (.cells #[] 43))
  have O2 := Lib.hid (own_e3 w1 43 (N + 1) (by omega))
  have B2 := Lib.hid (b1.alloc (by omega) (.cells #[] 43))
  clear k1 b1 C0
  go_wp2_with fail
  generalize (w1.alloc (.cells #[] 43)) = w2 at *
  generalize (some ⟨w1.heap.size, 0, none⟩ : Option Addr) = A0 at *
  generalize (D : Int) % 64 = d at *
  go_loopw [7, 8] (fun s i wr => ∃ (j : Nat) (W a b : Int) (A : Option Addr) (k c : Nat) (xs : List Value), j ≤ n ∧ i = .int .i64 j ∧ s = .slice A k c ∧ k ≤ j ∧ Inv W a b d ∧ Ck wr N W a b d ∧ Own wr (N + 1) 43 3 A k c xs ∧ Met xs k a b ∧ Below N w wr) (fun _ i _ => n - (intOf i).toNat)
  case atStart => exact ⟨0, 0, 0, 0, _, 0, 0, [], by omega, rfl, rfl, by omega, hI0, K2.out, O2.out, ⟨rfl, fun i hi => absurd hi (by omega)⟩, B2.out⟩
  case round =>
    obtain ⟨j, W, a, b, A1, k, c1, xs, hj, rfl, rfl, hk, hI, hK, hO, hM, hB⟩ := hrel
    clear hI0 K2 O2 B2
    have hR := hr.below hB
    have hNl := Whole.lt hK
    have hc1 := hO.2.2
    have hkc := hO.2.1
    have hm9 : maxLen = 9223372036854775807 := rfl
    by_cases hlt : j < n
    · obtain ⟨b0, o0, rfl, hb0, hcell⟩ := hR (by omega)
      have s0 : wr.cell? ⟨b0, o0 + j * 5, none⟩ = some (.int .i64 (f j 0)) := hcell j hlt 0 (by omega)
      have s1 : wr.cell? ⟨b0, o0 + j * 5 + 1, none⟩ = some (.int .i64 (f j 1)) := hcell j hlt 1 (by omega)
      have s2 : wr.cell? ⟨b0, o0 + j * 5 + 2, none⟩ = some (.int .i64 (f j 2)) := hcell j hlt 2 (by omega)
      have s3 : wr.cell? ⟨b0, o0 + j * 5 + 3, none⟩ = some (.int .i64 (f j 3)) := hcell j hlt 3 (by omega)
      have s4 : wr.cell? ⟨b0, o0 + j * 5 + 4, none⟩ = some (.int .i64 (f j 4)) := hcell j hlt 4 (by omega)
      have HR := Lib.hid hR
      have HK := Lib.hid hK
      have HO := Lib.hid hO
      have HM := Lib.hid hM
      have HB := Lib.hid hB
      clear hR hK hO hM hB hcell
      by_cases e1 : f j 0 = 1
      · have t1 : (f j 0 == 1) = true := by simp [e1]
        have c1' := C1.out W a b (f j 1) hI.1 (hf j 1)
        go_wp2_with fail
        refine (c1' _ HK.out).mono ?_; rintro e w3 ⟨rfl, k3, h3⟩
        have o3 := HO.out.ch h3 (by intro q hq _ _ h; omega)
        have b3 : Below N w w3 := HB.out.trans (h3.below (by intro q hq h; omega) (by omega))
        clear c1'
        go_wp2
        go_roundw
        case rel => exact ⟨j + 1, tickW W (f j 1), a, b, A1, k, c1, xs, by omega, by go_num, rfl, by omega, ⟨(tick_in hI.1).1, hI.2⟩, k3, o3, HM.out, b3⟩
        case measure => simp [intOf]; omega
      have t1 : (f j 0 == 1) = false := by simp [e1]
      by_cases e2 : f j 0 = 2
      · have t2 : (f j 0 == 2) = true := by simp [e2]
        have c2' := C2.out W a b hI.2.2.1
        have hin := nx_in (c := d) hI.1 hI.2.1 hI.2.2.1
        have hab := pk_above (W := W) (a := a) (b := b) (c := d)
        have hst : (pkV W a b d).2.2.2 ≠ 0 → nxA W a b d = a ∧ nxC W a b d = b := fun h => by unfold nxA nxC; rw [if_neg h, if_neg h]; exact ⟨rfl, rfl⟩
        have hIn : Inv W (nxA W a b d) (nxC W a b d) d := ⟨hI.1, hin.1, hin.2.1, hI.2.2.2⟩
        clear hin
        generalize nxA W a b d = a2 at *
        generalize nxC W a b d = b2 at *
        generalize pkV W a b d = P at *
        obtain ⟨pa, pb, pc, pe⟩ := P
        simp only at c2' hab hst
        go_wp2_with fail
        refine (c2' _ HK.out).mono ?_; rintro e w3 ⟨rfl, k3, h3⟩
        have o3 := Lib.hid ((HO.out.ch h3 (by intro q hq _ _ h; omega)).alloc (.cells #[.int .i64 pa, .int .i64 pb, .int .i64 pc] 43))
        have hl3 : N < w3.heap.size := Whole.lt k3
        have b3 : Below N w (w3.alloc (.cells #[.int .i64 pa, .int .i64 pb, .int .i64 pc] 43)) := (HB.out.trans (h3.below (by intro q hq h; omega) (by omega))).alloc (by omega) _
        have b3' := Lib.hid b3
        have k3' := Lib.hid (show Ck _ N W a2 b2 d from Whole.alloc k3 (.cells #[.int .i64 pa, .int .i64 pb, .int .i64 pc] 43))
        have q3 := Lib.hid (Whole.new w3 43 #[.int .i64 pa, .int .i64 pb, .int .i64 pc])
        clear c2' k3 h3 b3 s0 s1 s2 s3 s4 HR HK HO HB
        by_cases he : pe = 0
        · have te : (pe != 0) = false := by simp [he]
          obtain ⟨hab1, rfl, rfl⟩ := hab he
          clear hst he
          go_wp2_with fail
          generalize (w3.alloc (.cells #[.int .i64 a2, .int .i64 b2, .int .i64 pc] 43)) = w4 at *
          generalize w3.heap.size = q at *
          have hq := q3.out.lt
          go_loopw [11] (fun i wr => ∃ k2 : Nat, k2 ≤ k ∧ i = .int .i64 k2 ∧ Below w4.heap.size w4 wr) (fun i _ => k - (intOf i).toNat)
          case atStart => exact ⟨0, by omega, rfl, Below.refl _ _⟩
          case round =>
            obtain ⟨k2, hk2, rfl, hb2⟩ := hrel
            have hs2 := hb2.size
            have q4 := q3.out.below hb2 hq
            have p0 : wr.cell? ⟨q, 0, none⟩ = some (.int .i64 a2) := by rw [q4.cell]; rfl
            have p1 : wr.cell? ⟨q, 1, none⟩ = some (.int .i64 b2) := by rw [q4.cell]; rfl
            have p2 : wr.cell? ⟨q, 2, none⟩ = some (.int .i64 pc) := by rw [q4.cell]; rfl
            have O4 := o3.out.below hb2 (Nat.le_refl _)
            have k4 : Ck wr N W a2 b2 d := Whole.below k3'.out hb2 (Whole.lt k3'.out)
            have b4 : Below N w wr := b3'.out.trans (below_of_le hb2 (by omega))
            by_cases hlt2 : k2 < k
            · obtain ⟨x, y, z, x1, x2, x3, x4⟩ := HM.out.2 k2 hlt2
              obtain ⟨bm, om, rfl, _, hmc⟩ := O4.rd.2 (by omega)
              have m1 := hmc _ _ x1
              have m2 := hmc _ _ x2
              have m3 := hmc _ _ x3
              rw [← Nat.add_assoc] at m2 m3
              have hle := stL_of (z := z) (c := d) (pc := pc) x4 hab1
              have cl := CL.out x y z a2 b2 pc
              rw [hle] at cl
              clear q4 O4 k4 b4 hmc x1 x2 x3 x4
              go_wp2_with fail
              go_still_tail 5, (by kernel_rfl)
              repeat still_step
              change wpList _ _ _ _ _ wr.drew
              have hb2d := Lib.hid hb2.drew
              clear p0 p1 p2 m1 m2 m3 hb2
              generalize wr.drew = w5 at *
              go_wp2_with fail
              refine (cl _).mono ?_; rintro e w6 ⟨rfl, b6⟩
              go_wp2
              go_roundw
              case rel => exact ⟨k2 + 1, by omega, by go_num, below_step hb2d.out b6⟩
              case measure => simp [intOf]; omega
            · go_wp2_with (at_builtin; refine wpList_append_rd _ rfl _ _ 41 rfl (N + 1) 43 i0 (.agg #[.int .i64 0, .int .i64 0, .int .i64 0]) 3 24 Try.underlying41 hi hz0 hz1 hz2 rfl (by decide) (by decide) A1 k c1 xs rfl (Own.alloc O4 _) _ _ 1 1 [.int .i64 a2, .int .i64 b2, .int .i64 pc] rfl (rd_fresh3 wr _ _ _ 43) (by intro u hu; simp at hu; rcases hu with rfl | rfl | rfl <;> rfl) (by omega) (by simp; omega) ?_; intro A2 c2 w9 o9 b9)
              have b9' : Below (N + 1) wr w9 := ((Below.refl (N + 1) wr).alloc (by omega) _).trans b9
              go_roundw
              case rel => exact ⟨j + 1, W, a2, b2, A2, k + 1, c2, _, by omega, by go_num, rfl, by omega, hIn, Whole.below k4 (below_of_le b9' (Nat.le_refl _)) (by omega), o9, (HM.out.more (by omega)).push (.inr ⟨rfl, Int.le_refl _⟩), b4.trans (below_of_le b9' (by omega))⟩
              case measure => simp [intOf]; omega
        · have te : (pe != 0) = true := by simp [he]
          obtain ⟨rfl, rfl⟩ := hst he
          clear he hab
          go_wp2
          go_roundw
          case rel => exact ⟨j + 1, W, _, _, A1, k, c1, xs, by omega, by go_num, rfl, by omega, hIn, k3'.out, o3.out, HM.out, b3'.out⟩
          case measure => simp [intOf]; omega
      have t2 : (f j 0 == 2) = false := by simp [e2]
      by_cases e3 : f j 0 = 3
      · have t3 : (f j 0 == 3) = true := by simp [e3]
        have c3' := C3.out W a b (f j 2) (f j 3) (f j 4) hI.1
        have hl9 := fun h => hl_in (x := f j 2) (y := f j 3) (z := f j 4) hI.2.1 hI.2.2.1 h
        have hyes : heE W (f j 2) (f j 3) (f j 4) = 0 → stB (f j 2) (f j 3) (f j 4) = true := fun h => (he_ok h).1
        have hno := True.intro
        generalize heE W (f j 2) (f j 3) (f j 4) = E at *
        go_wp2_with fail
        refine (c3' _ HK.out).mono ?_; rintro e w3 ⟨rfl, k3, h3⟩
        have o3 := HO.out.ch h3 (by intro q hq _ _ h; omega)
        have hl3 : N < w3.heap.size := Whole.lt k3
        have bw : Below N wr w3 := h3.below (by intro q hq h; omega) (by omega)
        have b3 := HB.out.trans bw
        have s2' : w3.cell? ⟨b0, o0 + j * 5 + 2, none⟩ = some (.int .i64 (f j 2)) := by rw [bw.cell (by simp only; omega)]; exact s2
        have s3' : w3.cell? ⟨b0, o0 + j * 5 + 3, none⟩ = some (.int .i64 (f j 3)) := by rw [bw.cell (by simp only; omega)]; exact s3
        have s4' : w3.cell? ⟨b0, o0 + j * 5 + 4, none⟩ = some (.int .i64 (f j 4)) := by rw [bw.cell (by simp only; omega)]; exact s4
        clear c3' h3 bw s0 s1 s2 s3 s4 HR HK HO HB
        by_cases he : E = 0
        · have te : (E == 0) = true := by simp [he]
          obtain ⟨⟨hw1, hw2⟩, hle1, hle2, _⟩ := hl9 (hyes he)
          rw [if_pos he, if_pos he] at k3
          clear hl9 hyes hno
          go_wp2_with (at_builtin; refine wpList_append_rd _ rfl _ _ 41 rfl (N + 1) 43 i0 (.agg #[.int .i64 0, .int .i64 0, .int .i64 0]) 3 24 Try.underlying41 hi hz0 hz1 hz2 rfl (by decide) (by decide) A1 k c1 xs rfl (Own.alloc o3 _) _ _ 1 1 [.int .i64 (f j 2), .int .i64 (f j 3), .int .i64 (f j 4)] rfl (rd_fresh3 w3 _ _ _ 43) (by intro u hu; simp at hu; rcases hu with rfl | rfl | rfl <;> rfl) (by omega) (by simp; omega) ?_; intro A2 c2 w9 o9 b9)
          have b9' : Below (N + 1) w3 w9 := ((Below.refl (N + 1) w3).alloc (by omega) _).trans b9
          go_roundw
          case rel => exact ⟨j + 1, W, _, _, A2, k + 1, c2, _, by omega, by go_num, rfl, by omega, ⟨hI.1, hw1, hw2, hI.2.2.2⟩, Whole.below k3 (below_of_le b9' (Nat.le_refl _)) (by omega), o9, (HM.out.more hle1).push hle2, b3.trans (below_of_le b9' (by omega))⟩
          case measure => simp [intOf]; omega
        · have te : (E == 0) = false := by simp [he]
          rw [if_neg he, if_neg he] at k3
          clear hl9 hyes hno he
          go_wp2
          go_roundw
          case rel => exact ⟨j + 1, W, a, b, A1, k, c1, xs, by omega, by go_num, rfl, by omega, hI, k3, o3, HM.out, b3⟩
          case measure => simp [intOf]; omega
      have t3 : (f j 0 == 3) = false := by simp [e3]
      by_cases e4 : f j 0 = 4
      · have t4 : (f j 0 == 4) = true := by simp [e4]
        have c3' := C4.out W a b (f j 2) (f j 3) (f j 4)
        have hl9 := fun h => hl_in (x := f j 2) (y := f j 3) (z := f j 4) hI.2.1 hI.2.2.1 h
        have hyes : rsE (f j 2) (f j 3) (f j 4) = 0 → stB (f j 2) (f j 3) (f j 4) = true := fun h => by unfold rsE at h; revert h; cases stB (f j 2) (f j 3) (f j 4) <;> simp
        have hno : rsE (f j 2) (f j 3) (f j 4) ≠ 0 → stB (f j 2) (f j 3) (f j 4) = false := fun h => by unfold rsE at h; revert h; cases stB (f j 2) (f j 3) (f j 4) <;> simp
        unfold rsA rsC at c3'
        generalize rsE (f j 2) (f j 3) (f j 4) = E at *
        go_wp2_with fail
        refine (c3' _ HK.out).mono ?_; rintro e w3 ⟨rfl, k3, h3⟩
        have o3 := HO.out.ch h3 (by intro q hq _ _ h; omega)
        have hl3 : N < w3.heap.size := Whole.lt k3
        have bw : Below N wr w3 := h3.below (by intro q hq h; omega) (by omega)
        have b3 := HB.out.trans bw
        have s2' : w3.cell? ⟨b0, o0 + j * 5 + 2, none⟩ = some (.int .i64 (f j 2)) := by rw [bw.cell (by simp only; omega)]; exact s2
        have s3' : w3.cell? ⟨b0, o0 + j * 5 + 3, none⟩ = some (.int .i64 (f j 3)) := by rw [bw.cell (by simp only; omega)]; exact s3
        have s4' : w3.cell? ⟨b0, o0 + j * 5 + 4, none⟩ = some (.int .i64 (f j 4)) := by rw [bw.cell (by simp only; omega)]; exact s4
        clear c3' h3 bw s0 s1 s2 s3 s4 HR HK HO HB
        by_cases he : E = 0
        · have te : (E == 0) = true := by simp [he]
          obtain ⟨⟨hw1, hw2⟩, hle1, hle2, _⟩ := hl9 (hyes he)
          rw [hyes he, if_pos rfl, if_pos rfl] at k3
          clear hl9 hyes hno
          go_wp2_with (at_builtin; refine wpList_append_rd _ rfl _ _ 41 rfl (N + 1) 43 i0 (.agg #[.int .i64 0, .int .i64 0, .int .i64 0]) 3 24 Try.underlying41 hi hz0 hz1 hz2 rfl (by decide) (by decide) A1 k c1 xs rfl (Own.alloc o3 _) _ _ 1 1 [.int .i64 (f j 2), .int .i64 (f j 3), .int .i64 (f j 4)] rfl (rd_fresh3 w3 _ _ _ 43) (by intro u hu; simp at hu; rcases hu with rfl | rfl | rfl <;> rfl) (by omega) (by simp; omega) ?_; intro A2 c2 w9 o9 b9)
          have b9' : Below (N + 1) w3 w9 := ((Below.refl (N + 1) w3).alloc (by omega) _).trans b9
          go_roundw
          case rel => exact ⟨j + 1, W, _, _, A2, k + 1, c2, _, by omega, by go_num, rfl, by omega, ⟨hI.1, hw1, hw2, hI.2.2.2⟩, Whole.below k3 (below_of_le b9' (Nat.le_refl _)) (by omega), o9, (HM.out.more hle1).push hle2, b3.trans (below_of_le b9' (by omega))⟩
          case measure => simp [intOf]; omega
        · have te : (E == 0) = false := by simp [he]
          rw [hno he, if_neg (by simp), if_neg (by simp)] at k3
          clear hl9 hyes hno he
          go_wp2
          go_roundw
          case rel => exact ⟨j + 1, W, a, b, A1, k, c1, xs, by omega, by go_num, rfl, by omega, hI, k3, o3, HM.out, b3⟩
          case measure => simp [intOf]; omega
      have t4 : (f j 0 == 4) = false := by simp [e4]
      go_wp2
      go_roundw
      case rel => exact ⟨j + 1, W, a, b, A1, k, c1, xs, by omega, by go_num, rfl, by omega, hI, HK.out, HO.out, HM.out, HB.out⟩
      case measure => simp [intOf]; omega
    · have hB' := Lib.hid hB
      clear hK hM hB hr hR hO
      go_wp2_with fail
      refine (C9.out _).mono ?_; rintro e w5 ⟨rfl, b5⟩
      go_wp2
      go_ret
      exact ⟨rfl, hB'.out.trans (below_of_le b5 (by have := hB'.out.size; omega))⟩
theorem clockGoesOn_law (w : World) {d : Int} {v : Value} (hd : (Lit.int .u8 d).wf = true) (hv : IsRecs 5 w v) :
    Calls Try.prog 4 #[.int .u8 d, v] w fun e w' => e = .returned (.bool true) ∧ Below w.heap.size w w' := by
  obtain ⟨A, n, c, f, rfl, hnc, hc, hr, hf⟩ := hv
  have hc : c ≤ 9223372036854775807 := hc
  have hd := Go.bounds_u8 hd
  obtain ⟨D, rfl⟩ := Int.eq_ofNat_of_zero_le hd.1
  have C9 := Lib.hid awake19_any
  by_cases hn : n ≤ 100
  · exact clockGoesOn_in w D (by omega) A n c f hr hf hn
  · have h1 : 100 < n := by omega
    clear hn hr hf
    go_enter Try.func4, Try.ntmps4
    go_wp2_with fail
    refine (C9.out _).mono ?_; rintro e w2 ⟨rfl, b2⟩
    go_wp2
    go_ret
    exact ⟨rfl, b2⟩
end Go.Proofs.Ytjlmbdhjpjbneaa
