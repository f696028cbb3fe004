/- Layer 3 (crc): the walk of the law CrcParts. -/
import Derived.Test.YtccmifmfegjonaaC4
import Derived.Test.YtccmifmfegjonaaO3
import Derived.Test.YtccmifmfegjonaaW3
import Derived.StillTailTactics
namespace Go.Proofs.Ytccmifmfegjonaa
open Go.RowKit
set_option linter.unusedVariables false

theorem crcN_lift (a b : List UInt8) : 4294967295 - reg (4294967295 - crcN a) b = crcN (a ++ b) := by
  unfold crcN
  rw [reg_append]
  have := reg_lt (s := 4294967295) (by omega) a
  rw [show 4294967295 - (4294967295 - reg 4294967295 a) = reg 4294967295 a by omega]
theorem crcN_nil : crcN [] = 0 := by unfold crcN; rw [reg_nil, Nat.sub_self]
def partsL (F : Nat → Row1) (j : Nat) : List UInt8 := (List.range j).flatMap fun i => (F i).l
theorem partsL_succ (F : Nat → Row1) (j : Nat) : partsL F (j + 1) = partsL F j ++ (F j).l := by
  unfold partsL
  rw [List.range_succ, List.flatMap_append]
  simp
theorem partsL_len (F : Nat → Row1) (j : Nat) (h : ∀ i, i < j → (F i).l.length ≤ 200) : (partsL F j).length ≤ 200 * j := by
  induction j with
  | zero => simp [partsL]
  | succ j ih =>
    rw [partsL_succ, List.length_append]
    have := ih (fun i hi => h i (by omega))
    have := h j (by omega)
    omega
set_option maxHeartbeats 1000000 in
theorem crcParts_walk (w : World) {v : Value} (hb : IsRows w v) :
    Calls Try.prog 5 #[v] w fun e w' => e = .returned (.bool true) ∧ Below w.heap.size w w' := by
  obtain ⟨A, n, c, F, rfl, hnc, hc, hr, hF⟩ := hb
  have hc : c ≤ 9223372036854775807 := hc
  have C9 := Lib.hid awake03_any
  obtain ⟨i0, hi, hz0, hz1, hz2⟩ := info_parts Try.info_b
  by_cases hn : 20 < n
  · clear hr hF
    go_enter Try.func5, Try.ntmps5
    go_wp2_with fail
    refine (C9.out _).mono ?_; rintro e w2 ⟨rfl, hb2⟩
    go_wp2
    go_ret
    exact ⟨rfl, hb2⟩
  · have C1 := Lib.hid new_any
    have HF := Lib.hid hF
    clear hF
    go_enter Try.func5, Try.ntmps5
    go_wp2_with fail
    refine (C1.out _).mono ?_; rintro e w1 ⟨rfl, b1⟩
    go_wp2
    obtain ⟨W0, hW0⟩ : ∃ W0, W0 = w1.alloc (.cells #[.int .u32 0] 33) := ⟨_, rfl⟩
    have q0 : Whole W0 w1.heap.size 33 #[.int .u32 0] := by rw [hW0]; exact Whole.new _ _ _
    have z1 : w.heap.size + 1 ≤ w1.heap.size := by have := b1.size; simpa using this
    have k0 : Below w.heap.size w W0 := by
      rw [hW0]
      exact (((Below.refl _ _).alloc (Nat.le_refl _) _).trans (below_of_le b1 (by simp))).alloc (by omega) _
    have o0 : Own W0 w.heap.size 5 1 (some ⟨w.heap.size, 0, none⟩) 0 0 [] := by
      rw [hW0]
      exact ((own_lit0 w _).below b1 (Nat.le_refl _)).alloc _
    rw [← hW0]
    generalize hG : w1.heap.size = G at *
    clear hW0 b1 C1
    have C2 := Lib.hid (fun (L l : List UInt8) (A : Option Addr) (n c B : Nat) (w : World) (hn : n ≤ 9223372036854775807) (hr : Rd w B 1 A n (bv l)) (hB : B ≤ w.heap.size) => by
      have := add_any (crcN L) A n c B l w (crcN_lt L) hn hr hB
      rw [crcN_lift] at this
      exact this)
    have C3 := Lib.hid ssum_any
    have C4 := Lib.hid rsum_any
    have C5 := Lib.hid sum_any
    go_loopw [3, 5] (fun all i wr => ∃ (j : Nat) (A3 : Option Addr) (c3 : Nat), j ≤ n ∧ i = .int .i64 j ∧ all = .slice A3 (partsL F j).length c3 ∧ Own wr w.heap.size 5 1 A3 (partsL F j).length c3 (bv (partsL F j)) ∧
        Whole wr G 33 #[.int .u32 ((crcN (partsL F j) : Nat) : Int)] ∧ Below w.heap.size w wr ∧ (∀ i, i < j → (F i).l.length ≤ 200)) (fun _ i _ => n - (intOf i).toNat)
    case atStart => exact ⟨0, _, 0, Nat.zero_le _, rfl, rfl, o0, by rw [show partsL F 0 = [] from rfl, crcN_nil]; exact q0, k0, fun i hi => absurd hi (by omega)⟩
    case round =>
      obtain ⟨j, A3, c3, hj, rfl, rfl, ho, hq, hb, hlen⟩ := hrel
      have hpl := partsL_len F j hlen
      by_cases hlt : j < n
      · have hok := HF.out j hlt
        have hps := partsL_succ F j
        obtain ⟨b, o, u, rfl, hbw, hu, hcell⟩ := (hr.below hb).at_ hlt
        have hu' : u = (F j).val := by
          rw [List.getElem?_map, List.getElem?_range hlt] at hu
          simpa using hu.symm
        subst hu'
        obtain ⟨k1, k2, k3⟩ := hok
        have hvl : (F j).l.length = (F j).n := by have := k3.len; rw [bv_length] at this; exact this
        have hval : (F j).val = .slice (F j).A (F j).n (F j).c := rfl
        rw [hval] at hcell
        have k2 : (F j).c ≤ 9223372036854775807 := k2
        generalize hR : (F j).A = RA at *
        generalize hN : (F j).n = RN at *
        generalize hC : (F j).c = RC at *
        generalize hL : (F j).l = RL at *
        have HPS := Lib.hid hps
        have HLEN := Lib.hid hlen
        have HL := Lib.hid hL
        have HVL := Lib.hid hvl
        clear hval hu hps hlen hR hN hC hL hvl
        by_cases h200 : 200 < RN
        · go_wp2_with fail
          refine (C9.out _).mono ?_; rintro e w2 ⟨rfl, hb2⟩
          go_wp2
          go_ret
          exact ⟨rfl, below_step hb hb2⟩
        · have hq0 := hq.cell 0
          have hqf := hq.free 0
          have hne := ho.ne_ hq (by decide)
          go_wp2_with (at_builtin; refine wpList_append_rdg _ rfl _ _ 27 rfl w.heap.size 5 i0 (.int .u8 0) 1 1 Try.underlying27 hi hz0 hz1 hz2 rfl (by decide) (by decide) A3 _ c3 _ rfl ho w.heap.size RA RN RC (bv RL) rfl (k3.below hb) (bv_oneCell RL) (by omega) hb.size ?_; intro A4 c4 w2 o4 b4 g4)
          have q4 := hq.grown g4 hne
          have hb4 := hb.trans b4
          have hcell4 : w2.cell? ⟨b, o + j, none⟩ = some (.slice RA RN RC) := (b4.cell (p := ⟨b, o + j, none⟩) hbw).trans hcell
          have hq4 : w2.cell? ⟨G, 0, none⟩ = some (.int .u32 ((crcN (partsL F j) : Nat) : Int)) := q4.cell 0
          have hne4 := o4.ne_ q4 (by decide)
          have k34 := k3.below hb4
          clear hcell hq0 hqf hne g4 ho hq
          go_still_tail 5, (by kernel_rfl)
          have q5 := q4.drew
          have o5 := o4.drew
          have k35 := k34.drew
          have hb5 := hb4.drew
          change wpList _ _ _ _ _ w2.drew
          clear q4 o4 k34 hb4 hcell4 hq4
          generalize w2.drew = w5 at *
          clear b4
          rw [← bv_append, ← HPS.out] at o5
          have hvl := HVL.out
          go_wp2_with fail
          refine (C2.out (partsL F j) RL RA RN RC w.heap.size _ (by omega) k35 hb5.size).mono ?_; rintro e w6 ⟨rfl, b6⟩
          rw [← HPS.out]
          have q6 := q5.below b6 q5.lt
          have o6 := o5.below b6 (Nat.le_refl _)
          have hb6 := below_step hb5 b6
          have hne6 := o6.ne_ q6 (by decide)
          have q7 := q6.set_ 0 (.int .u32 ((crcN (partsL F (j + 1)) : Nat) : Int))
          have o7 := o6.far (p := ⟨G, 0, none⟩) hne6 (.int .u32 ((crcN (partsL F (j + 1)) : Nat) : Int))
          have gB : w.heap.size ≤ G := by omega
          have hb7 := hb6.setCell (p := ⟨G, 0, none⟩) gB (.int .u32 ((crcN (partsL F (j + 1)) : Nat) : Int))
          have c6 := q6.cell 0
          have f6 := q6.free 0
          have hX : ((crcN (partsL F (j + 1)) : Int) != (crcN (partsL F (j + 1)) : Int)) = false := by simp
          have C4' := Lib.hid (fun (A : Option Addr) (c B : Nat) => C4.out A ((partsL F j).length + RN) c B (partsL F (j + 1)))
          have hsucc := congrArg List.length HPS.out
          rw [List.length_append, hvl] at hsucc
          have HX := Lib.hid hX
          have HSUC := Lib.hid hsucc
          clear hX hsucc hvl
          generalize hY : crcN (partsL F (j + 1)) = Y at *
          generalize hX : crcN (partsL F j) = X at *
          clear hX
          have HY := Lib.hid hY
          clear hY
          simp at c6
          have c7 := q7.cell 0
          simp at c7
          go_wp2_with fail
          generalize w6.setCell ⟨G, 0, none⟩ (.int .u32 (Y : Int)) = w7 at *
          clear q6 o6 hb6 c6 f6 q5 o5 hb5 b6
          refine (C3.out _ _).mono ?_; rintro e w8 ⟨rfl, b8⟩
          have q8 := q7.below b8 q7.lt
          have o8 := o7.below b8 (Nat.le_refl _)
          have hb8 := below_step hb7 b8
          clear q7 o7 hb7 b8 c7
          go_wp2_with fail
          refine (C4'.out A4 c4 w8.heap.size _ (by omega) o8.rd).mono ?_; rintro e w8' ⟨rfl, rfl⟩
          have hX := HX.out
          go_wp2
          go_roundw
          case rel =>
            refine ⟨j + 1, A4, c4, by omega, by go_num, by rw [HSUC.out], by rw [HSUC.out]; exact o8, ?_, hb8, ?_⟩
            · rw [HY.out]; simpa using q8
            · intro i hi
              rcases Nat.lt_or_ge i j with h | h
              · exact HLEN.out i h
              · have : i = j := by omega
                subst this
                rw [HL.out, HVL.out]; omega
          case measure => simp [intOf]; omega
      · have : j = n := by omega
        subst this
        have hq0 := hq.cell 0
        simp at hq0
        have hz := hb.size
        have hX : ((crcN (partsL F j) : Int) == (crcN (partsL F j) : Int)) = true := by simp
        have C5' := Lib.hid (fun (A : Option Addr) (c B : Nat) => C5.out A (partsL F j).length c B (partsL F j))
        have HX := Lib.hid hX
        clear hX
        generalize crcN (partsL F j) = X at *
        go_wp2_with fail
        refine (C3.out _ _).mono ?_; rintro e w8 ⟨rfl, b8⟩
        have o8 := ho.below b8 (Nat.le_refl _)
        have hb8 := below_step hb b8
        go_wp2_with fail
        refine (C5'.out A3 c3 w8.heap.size _ (by omega) o8.rd (Nat.le_refl _)).mono ?_; rintro e w9 ⟨rfl, b9⟩
        have hX := HX.out
        go_wp2_with fail
        refine (C9.out _).mono ?_; rintro e w10 ⟨rfl, b10⟩
        go_wp2
        go_ret
        exact ⟨rfl, below_step (below_step hb8 b9) b10⟩
end Go.Proofs.Ytccmifmfegjonaa
