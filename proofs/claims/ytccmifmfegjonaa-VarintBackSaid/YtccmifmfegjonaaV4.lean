/- Layer 2 (varint): the walk of the law VarintBack. -/
import Derived.Test.YtccmifmfegjonaaV2
import Derived.Test.YtccmifmfegjonaaO4
import Derived.Test.YtccmifmfegjonaaW4
namespace Go.Proofs.Ytccmifmfegjonaa
open Go.RowKit
set_option linter.unusedVariables false

/-- Numbers' short bytes, one behind the other. -/
def cat (l : List Nat) : List UInt8 := l.flatMap vput
theorem cat_snoc (l : List Nat) (j : Nat) (h : j < l.length) : cat (l.take (j + 1)) = cat (l.take j) ++ vput (l.getD j 0) := by
  unfold cat
  rw [List.take_succ_eq_append_getElem h, List.flatMap_append]
  simp [List.getD, List.getElem?_eq_getElem h]
theorem cat_drop (l : List Nat) (j : Nat) (h : j < l.length) : cat (l.drop j) = vput (l.getD j 0) ++ cat (l.drop (j + 1)) := by
  unfold cat
  rw [List.drop_eq_getElem_cons h, List.flatMap_cons]
  simp [List.getD, List.getElem?_eq_getElem h]
theorem cat_len (l : List Nat) (h : ∀ x ∈ l, x < 18446744073709551616) : (cat l).length ≤ 10 * l.length := by
  induction l with
  | nil => simp [cat]
  | cons x l ih =>
    have e : cat (x :: l) = vput x ++ cat l := by simp [cat]
    rw [e, List.length_append, List.length_cons]
    have := vput_le (h x (by simp))
    have := ih (fun y hy => h y (by simp [hy]))
    omega
theorem Rd.u64_ {w : World} {B n k : Nat} {A : Option Addr} {l : List Nat} (h : Rd w B 1 A n (uv l)) (hk : k < n) :
    ∃ b o, A = some ⟨b, o, none⟩ ∧ b < B ∧ w.cell? ⟨b, o + k, none⟩ = some (.int .u64 ((l.getD k 0 : Nat) : Int)) := by
  obtain ⟨b, o, u, e, hb, hx, hc⟩ := h.at_ hk
  refine ⟨b, o, e, hb, ?_⟩
  have hl : k < l.length := by have := h.len; simp [uv] at this; omega
  rw [uv, List.getElem?_map, List.getElem?_eq_getElem hl] at hx
  rw [hc, ← hx]
  simp [List.getD, List.getElem?_eq_getElem hl]
set_option maxRecDepth 100000 in
set_option maxHeartbeats 2000000 in
theorem varintBack_in (w : World) (A : Option Addr) (n c : Nat) (l : List Nat) (hr : Rd w w.heap.size 1 A n (uv l)) (hl64 : ∀ x ∈ l, x < 18446744073709551616) (hn : n ≤ 100)
    (A' : Option Addr) (m c' : Nat) (bh : List UInt8) (hr' : Rd w w.heap.size 1 A' m (bv bh)) (hm : m ≤ 1000) :
    Calls Try.prog 13 #[.slice A n c, .slice A' m c'] w fun e w' => e = .returned (.bool true) ∧ Below w.heap.size w w' := by
  obtain ⟨i0, hi, hz0, hz1, hz2⟩ := info_parts Try.info_by
  have hl : l.length = n := by have := hr.len; simp [uv] at this; exact this
  have hml : bh.length = m := by have := hr'.len; rw [bv_length] at this; exact this
  have C9 := Lib.hid awake02_any
  have H64 := Lib.hid (fun (j : Nat) (hj : j < n) => hl64 (l.getD j 0) (by
    have hj : j < l.length := by omega
    rw [List.getD, List.getElem?_eq_getElem hj]
    exact List.getElem_mem hj))
  have hcl := cat_len l hl64
  have HT := Lib.hid (fun (j : Nat) => cat_len (l.take j) (fun x hx => hl64 x (List.mem_of_mem_take hx)))
  have hs : ∀ w, (sizeOf (Try.prog.elem 27)).run Try.prog w = .ok 1 w := fun w => by kernel_rfl
  have HS := Lib.hid (run_from (P := Try.prog) 27 (by kernel_rfl) hs)
  clear hl64 hs
  go_enter Try.func13, Try.ntmps13
  go_wp2
  go_loopw [5, 6] (fun b i wr => ∃ (j : Nat) (A1 : Option Addr) (c1 : Nat), j ≤ n ∧ i = .int .i64 j ∧ b = .slice A1 (cat (l.take j)).length c1 ∧ Rd wr wr.heap.size 1 A1 (cat (l.take j)).length (bv (cat (l.take j))) ∧ Below w.heap.size w wr) (fun _ i _ => n - (intOf i).toNat)
  case atStart => exact ⟨0, _, 0, Nat.zero_le _, rfl, rfl, ⟨rfl, fun h => absurd h (by simp [cat])⟩, (Below.refl _ _).alloc (Nat.le_refl _) _⟩
  case round =>
    obtain ⟨j, A1, c1, hj, rfl, rfl, r1, hb⟩ := hrel
    have hct := HT.out j
    rw [List.length_take] at hct
    by_cases hlt : j < n
    · obtain ⟨b, o, rfl, _, hc⟩ := (hr.below hb).u64_ hlt
      have hx := H64.out j hlt
      have hcs := cat_snoc l j (by omega)
      have hvl := vput_le hx
      have HCS := Lib.hid hcs
      have HLT := congrArg List.length hcs
      rw [List.length_append] at HLT
      have HLT := Lib.hid HLT
      clear hcs
      obtain ⟨x, hxe⟩ : ∃ x, l.getD j 0 = x := ⟨_, rfl⟩
      rw [hxe] at hc hx HCS HLT hvl
      clear hxe
      generalize hL : cat (l.take j) = L at *
      have C1 := Lib.hid (put_any A1 L.length c1 wr.heap.size x L wr (by omega) hx r1 (Nat.le_refl _))
      clear hL
      go_wp2_with fail
      refine (C1.out).mono ?_; rintro e w2 ⟨A2, c2, rfl, o2, b2⟩
      go_wp2
      go_roundw
      case rel =>
        refine ⟨j + 1, A2, c2, by omega, by go_num, ?_, ?_, below_step hb b2⟩
        · rw [HCS.out, List.length_append]
        · rw [HCS.out]; exact o2.rd
      case measure => simp [intOf]; omega
    · have hjn : j = n := by omega
      subst hjn
      rw [List.take_of_length_le (by omega)] at r1 hct ⊢
      have hz := hb.size
      obtain ⟨L, hL⟩ : ∃ L, cat l = L := ⟨_, rfl⟩
      rw [hL] at r1 hct hcl ⊢
      have HL := Lib.hid hL
      clear hL
      go_wp2_with (first
        | (at_builtin; refine wpList_append_rd _ rfl (.tmp 33) (.tmp 34) 27 rfl wr.heap.size 5 i0 (.int .u8 0) 1 1 Try.underlying27 hi hz0 hz1 hz2 rfl (by decide) (by decide) _ 0 0 [] rfl (own_e0 _ _) wr.heap.size A1 L.length c1 (bv L) rfl (r1.alloc (Nat.le_refl _) _) (bv_oneCell L) (by omega) (by simp) ?_; intro A4 c4 w4 o4 b4; simp only [Nat.zero_add, List.nil_append] at o4)
        | (at_builtin; refine wpList_append_rd _ rfl (.tmp 35) (.tmp 36) 27 rfl wr.heap.size 5 i0 (.int .u8 0) 1 1 Try.underlying27 hi hz0 hz1 hz2 rfl (by decide) (by decide) A4 L.length c4 (bv L) rfl o4 w.heap.size A' m c' (bv bh) rfl (((hr'.below hb).alloc hz _).below (below_of_le b4 hz)) (bv_oneCell bh) (by omega) (by have := b4.size; simp at this; omega) ?_; intro A5 c5 w5 o5 b5; rw [← bv_append] at o5))
      have b35 : Below wr.heap.size wr w5 := (((Below.refl _ _).alloc (Nat.le_refl _) _).trans b4).trans b5
      have k5 := below_step hb b35
      have r5 := o5.rd
      have h5 := o5.2.1
      have h5' : c5 ≤ 9223372036854775807 := o5.2.2
      clear o4 o5 b4 b5 b35
      have hlen5 : (L ++ bh).length = L.length + m := by rw [List.length_append, hml]
      clear hct hcl r1 hz
      go_loop [5, 7] (fun b i => ∃ (j1 : Nat) (A1 : Option Addr) (N1 c1 : Nat), j1 ≤ j ∧ i = .int .i64 j1 ∧ b = .slice A1 N1 c1 ∧ Rd w5 w5.heap.size 1 A1 N1 (bv (cat (l.drop j1) ++ bh)) ∧ N1 ≤ c1 ∧ c1 ≤ 9223372036854775807) (fun _ i => j - (intOf i).toNat)
      case atStart => exact ⟨0, A5, _, c5, Nat.zero_le _, rfl, rfl, by rw [List.drop_zero, HL.out]; exact r5, h5, h5'⟩
      case round =>
        obtain ⟨k, A6, N6, c6, hk, rfl, rfl, r6, h6, h6'⟩ := hrel
        by_cases hlt : k < j
        · obtain ⟨b, o, rfl, _, hc⟩ := (hr.below k5).u64_ hlt
          have hx := H64.out k hlt
          have hcd := cat_drop l k (by omega)
          rw [hcd, List.append_assoc] at r6
          have hN : N6 = (vput (l.getD k 0)).length + (cat (l.drop (k + 1)) ++ bh).length := by have := r6.len; rw [bv_length, List.length_append] at this; omega
          have hg := vget_put (l.getD k 0) (cat (l.drop (k + 1)) ++ bh) hx
          have hp := vput_pos (l.getD k 0)
          have c1 := get_any A6 N6 c6 _ _ w5 (by omega) r6
          rw [hg] at c1
          have r7 := r6.cutA_ (k := (vput (l.getD k 0)).length) (by omega) h6
          rw [← bv_drop, List.drop_left] at r7
          generalize hR : cat (l.drop (k + 1)) ++ bh = R at *
          generalize hV : (vput (l.getD k 0)).length = V at *
          generalize l.getD k 0 = x at *
          have hsl := HS.out A6 N6 c6 V (by omega)
          have C1 := Lib.hid c1
          have R7 := Lib.hid r7
          have HR := Lib.hid hR
          have hd : getV (x, V, 0) = .tuple #[.int .u64 (x : Int), .int .i64 (V : Int), .int .i64 0] := rfl
          rw [hd] at C1
          have t1 : ((x : Int) != (x : Int)) = false := by simp
          have t2 : (V : Int) ≤ (N6 : Int) := by omega
          have t3 : (1 : Int) ≤ (V : Int) := by omega
          have t4 : V ≤ N6 := by omega
          have t5 : N6 - V ≤ c6 - V := by omega
          clear hd c1 r7 hR hcd hN hg hV r6
          go_wp2_with fail
          refine (C1.out).mono ?_; rintro e w' ⟨rfl, rfl⟩
          go_wp2
          go_round
          case rel => exact ⟨k + 1, cutA A6 c6 V, N6 - V, c6 - V, by omega, by go_num, rfl, by rw [HR.out]; exact R7.out, t5, by omega⟩
          case measure => simp [intOf]; omega
        · have hkj : k = j := by omega
          subst hkj
          rw [List.drop_of_length_le (by omega)] at r6
          have e0 : cat [] ++ bh = bh := rfl
          rw [e0] at r6
          have C2 := Lib.hid (same_any bh A6 A' N6 m c6 c' w5.heap.size w5 (by omega) r6 ((hr'.below k5).more k5.size) (Nat.le_refl _))
          go_wp2_with fail
          refine (C2.out).mono ?_; rintro e w6 ⟨rfl, b6⟩
          go_wp2_with fail
          refine (C9.out _).mono ?_; rintro e w7 ⟨rfl, b7⟩
          go_wp2
          go_ret
          exact ⟨rfl, below_step (below_step k5 b6) b7⟩
theorem varintBack_walk (w : World) {v u : Value} (hv : IsU64s w v) (hu : IsBytes w u) :
    Calls Try.prog 13 #[v, u] w fun e w' => e = .returned (.bool true) ∧ Below w.heap.size w w' := by
  obtain ⟨A, n, c, l, rfl, hnc, hc, hr, h64⟩ := hv
  obtain ⟨A', m, c', bh, rfl, hmc, hc', hr'⟩ := hu
  have hc : c ≤ 9223372036854775807 := hc
  have hc' : c' ≤ 9223372036854775807 := hc'
  by_cases h : n ≤ 100 ∧ m ≤ 1000
  · exact varintBack_in w A n c l hr h64 h.1 A' m c' bh hr' h.2
  · have C9 := Lib.hid awake02_any
    by_cases h1 : 100 < n
    · clear h
      go_enter Try.func13, Try.ntmps13
      go_wp2_with fail
      refine (C9.out _).mono ?_; rintro e w2 ⟨rfl, hb2⟩
      go_wp2
      go_ret
      exact ⟨rfl, hb2⟩
    · have h2 : 1000 < m := by omega
      clear h
      go_enter Try.func13, Try.ntmps13
      go_wp2_with fail
      refine (C9.out _).mono ?_; rintro e w2 ⟨rfl, hb2⟩
      go_wp2
      go_ret
      exact ⟨rfl, hb2⟩
end Go.Proofs.Ytccmifmfegjonaa
