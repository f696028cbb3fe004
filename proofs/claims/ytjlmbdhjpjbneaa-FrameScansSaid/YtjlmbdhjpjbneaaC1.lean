/- Layer 3 (crc): the contracts of the program's and the reference's functions. -/
import Derived.Test.YtjlmbdhjpjbneaaCM
import Derived.Test.YtjlmbdhjpjbneaaRows
import Derived.Deep.WholeRow
namespace Go.Proofs.Ytjlmbdhjpjbneaa
open Go.RowKit
set_option linter.unusedVariables false
set_option maxRecDepth 100000

def tabV : Array Value := #[.int .u32 0x00000000, .int .u32 0x1db71064, .int .u32 0x3b6e20c8, .int .u32 0x26d930ac, .int .u32 0x76dc4190, .int .u32 0x6b6b51f4, .int .u32 0x4db26158, .int .u32 0x5005713c, .int .u32 0xedb88320, .int .u32 0xf00f9344, .int .u32 0xd6d6a3e8, .int .u32 0xcb61b38c, .int .u32 0x9b64c2b0, .int .u32 0x86d3d2d4, .int .u32 0xa00ae278, .int .u32 0xbdbdf21c]
theorem tabV_eq : tabV.toList = tab16.map (fun (n : Nat) => Value.int .u32 (n : Int)) := rfl
theorem tabV_one : (tabV.all fun x => x.oneCell') = true := by kernel_rfl
theorem tabV_at (r : Nat) (h : r < 16) : tabV[r]? = some (.int .u32 ((tab16.getD r 0 : Nat) : Int)) := by
  have hl : r < tab16.length := h
  rw [← Array.getElem?_toList, tabV_eq, List.getElem?_map, List.getD, List.getElem?_eq_getElem hl]
  rfl
theorem tab16_lt (r : Nat) : tab16.getD r 0 < 4294967296 := by
  by_cases h : r < 16
  · have : ∀ r : Fin 16, tab16.getD r.val 0 < 4294967296 := by decide
    exact this ⟨r, h⟩
  · have hl : tab16.length = 16 := rfl
    rw [List.getD, List.getElem?_eq_none (by omega)]
    decide
theorem not_u32 (s : Nat) (h : s < 4294967296) : bits .xor .u32 IntKind.u32.max (s : Int) = ((4294967295 - s : Nat) : Int) := by
  have e : IntKind.u32.max = ((4294967295 : Nat) : Int) := rfl
  rw [e, u32_xor_nat 4294967295 s (by omega) h, not32 h]
theorem table_any (w : World) : Calls Try.prog 126 #[] w fun e w' => e = .returned (.agg tabV) ∧ Below w.heap.size w w' := by
  go_enter Try.func126, Try.ntmps126
  go_wp2
  go_returns
  exact ⟨rfl, by go_grown⟩
theorem add_any (s : Nat) (A : Option Addr) (n c B : Nat) (l : List UInt8) (w : World) (hs : s < 4294967296) (hn : n ≤ 9223372036854775807) (hr : Rd w B 1 A n (bv l)) (hB : B ≤ w.heap.size) :
    Calls Try.prog 117 #[.agg #[.int .u32 s], .slice A n c] w fun e w' => e = .returned (.agg #[.int .u32 ((4294967295 - reg (4294967295 - s) l : Nat) : Int)]) ∧ Below w.heap.size w w' := by
  have CT := Lib.hid table_any
  go_enter Try.func117, Try.ntmps117
  go_wp2_with fail
  refine (CT.out _).mono ?_; rintro e w1 ⟨rfl, hb1⟩
  have hst := fun (w1 : World) => run_storeCells_new (P := Try.prog) w1 167 #[.int .u32 0, .int .u32 0, .int .u32 0, .int .u32 0, .int .u32 0, .int .u32 0, .int .u32 0, .int .u32 0, .int .u32 0, .int .u32 0, .int .u32 0, .int .u32 0, .int .u32 0, .int .u32 0, .int .u32 0, .int .u32 0] tabV (by kernel_rfl) rfl tabV_one
  go_wp2_with fail
  clear hst
  obtain ⟨W2, hW2⟩ : ∃ W2, W2 = w1.alloc (.cells tabV 167) := ⟨_, rfl⟩
  have hz1 : w.heap.size + 2 ≤ w1.heap.size := by have := hb1.size; simpa using this
  have htab : ∀ r, r < 16 → W2.cell? ⟨w1.heap.size, r, none⟩ = some (.int .u32 ((tab16.getD r 0 : Nat) : Int)) := by
    intro r hr
    rw [hW2, cell_of_row _ _ _ tabV 167 (0, 0) (heap_alloc_new w1 _), tabV_at r hr]
  have hq1 : W2.cell? ⟨w.heap.size + 1, 0, none⟩ = some (.int .u32 0) := by
    rw [hW2, World.cell?_alloc_lt _ _ _ (by simp; omega), hb1.cell (p := ⟨w.heap.size + 1, 0, none⟩) (by simp)]
    go_cell
  have hq2 : W2.frozen? ⟨w.heap.size + 1, 0, none⟩ = false := by
    rw [hW2, World.frozen?_alloc_old _ _ _ (by simp; omega), hb1.frozen (p := ⟨w.heap.size + 1, 0, none⟩) (by simp)]
    go_cell
  have hrd : Rd W2 B 1 A n (bv l) := by
    rw [hW2]
    exact (((hr.alloc hB _).alloc (by simp; omega) _).below (below_of_le hb1 (by simp; omega))).alloc (by omega) _
  have hbl : Below w.heap.size w W2 := by
    rw [hW2]
    exact ((((Below.refl _ _).alloc (Nat.le_refl _) _).alloc (by simp) _).trans (below_of_le hb1 (by simp; omega))).alloc (by omega) _
  rw [← hW2, not_u32 s hs]
  clear hW2 hb1 CT
  have hl : l.length = n := by have := hr.len; rw [bv_length] at this; exact this
  go_loop [5, 15] (fun x i => ∃ j : Nat, j ≤ n ∧ i = .int .i64 j ∧ x = .int .u32 ((reg (4294967295 - s) (l.take j) : Nat) : Int)) (fun _ i => n - (intOf i).toNat)
  case atStart => exact ⟨0, Nat.zero_le _, rfl, rfl⟩
  case round =>
    obtain ⟨j, hj, rfl, rfl⟩ := hrel
    have hX := reg_lt (s := 4294967295 - s) (by omega) (l.take j)
    by_cases hlt : j < n
    · obtain ⟨b, o, rfl, _, hc⟩ := hrd.byte hlt
      have hcb := (l.getD j 0).toNat_lt
      have hst : reg (4294967295 - s) (l.take (j + 1)) = stpN 8 (reg (4294967295 - s) (l.take j) ^^^ (l.getD j 0).toNat) := by
        rw [List.take_succ_eq_append_getElem (by omega), reg_append, reg_cons, reg_nil]
        simp [List.getD, List.getElem?_eq_getElem (show j < l.length by omega)]
      have hY := xor_byte_lt hX (l.getD j 0)
      generalize (l.getD j 0).toNat = c at *
      generalize reg (4294967295 - s) (l.take j) = X at *
      have e1 : bits .xor .u32 (X : Int) (c : Int) = ((X ^^^ c : Nat) : Int) := u32_xor_nat X c hX (by omega)
      generalize X ^^^ c = Y at *
      have e2 : bits .and .u32 (Y : Int) 15 = ((Y % 16 : Nat) : Int) := by
        rw [show (15 : Int) = ((15 : Nat) : Int) from rfl, u32_and_nat Y 15 hY (by omega), nat_mask4]
      have hr1 : Y % 16 < 16 := Nat.mod_lt _ (by omega)
      have t1 := htab _ hr1
      have e3 : bits .xor .u32 ((Y : Int) / 16) ((tab16.getD (Y % 16) 0 : Nat) : Int) = ((stpN 4 Y : Nat) : Int) := by
        rw [show (Y : Int) / 16 = ((Y / 16 : Nat) : Int) by simp, u32_xor_nat _ _ (by omega) (tab16_lt _), stp4]
      have hZ := stpN_lt 4 hY
      have h8 : stpN 8 Y = stpN 4 (stpN 4 Y) := stpN_add 4 4 Y
      generalize tab16.getD (Y % 16) 0 = T at *
      generalize Y % 16 = r at *
      generalize stpN 4 Y = Z at *
      have f2 : bits .and .u32 (Z : Int) 15 = ((Z % 16 : Nat) : Int) := by
        rw [show (15 : Int) = ((15 : Nat) : Int) from rfl, u32_and_nat Z 15 hZ (by omega), nat_mask4]
      have hr2 : Z % 16 < 16 := Nat.mod_lt _ (by omega)
      have t2 := htab _ hr2
      have f3 : bits .xor .u32 ((Z : Int) / 16) ((tab16.getD (Z % 16) 0 : Nat) : Int) = ((stpN 4 Z : Nat) : Int) := by
        rw [show (Z : Int) / 16 = ((Z / 16 : Nat) : Int) by simp, u32_xor_nat _ _ (by omega) (tab16_lt _), stp4]
      generalize tab16.getD (Z % 16) 0 = T2 at *
      generalize Z % 16 = r2 at *
      rw [h8] at hst
      generalize stpN 4 Z = V at *
      have HS := Lib.hid hst
      clear hst h8 htab
      go_wp2
      go_round
      case rel => exact ⟨j + 1, by omega, by go_num, by rw [HS.out]⟩
      case measure => simp [intOf]; omega
    · have : j = n := by omega
      subst this
      rw [List.take_of_length_le (by omega)] at hX ⊢
      have hnot := not_u32 _ hX
      obtain ⟨X, hXe⟩ : ∃ X, reg (4294967295 - s) l = X := ⟨_, rfl⟩
      rw [hXe] at hX hnot ⊢
      have HXE := Lib.hid hXe
      clear htab hXe
      have hq3 : (W2.setCell ⟨w.heap.size + 1, 0, none⟩ (.int .u32 ((4294967295 - X : Nat) : Int))).cell? ⟨w.heap.size + 1, 0, none⟩ = some (.int .u32 ((4294967295 - X : Nat) : Int)) := World.cell?_setCell_same _ _ _ hq1
      have hfin : Below w.heap.size w (W2.setCell ⟨w.heap.size + 1, 0, none⟩ (.int .u32 ((4294967295 - X : Nat) : Int))) := hbl.setCell (by simp) _
      go_wp2
      exact bodyPost_ret (v := .agg #[.int .u32 ((4294967295 - X : Nat) : Int)]) (by simp [results, Try.results117, go_sem, hq3]) rfl ⟨by rw [HXE.out], hfin⟩

theorem new_any (w : World) : Calls Try.prog 116 #[] w fun e w' => e = .returned (.agg #[.int .u32 0]) ∧ Below w.heap.size w w' := by
  go_enter Try.func116, Try.ntmps116
  go_wp2
  go_returns
  exact ⟨rfl, by go_grown⟩
theorem ssum_any (s : Int) (w : World) : Calls Try.prog 118 #[.agg #[.int .u32 s]] w fun e w' => e = .returned (.int .u32 s) ∧ Below w.heap.size w w' := by
  go_enter Try.func118, Try.ntmps118
  go_wp2
  go_returns
  exact ⟨rfl, by go_grown⟩
theorem sum_any (A : Option Addr) (n c B : Nat) (l : List UInt8) (w : World) (hn : n ≤ 9223372036854775807) (hr : Rd w B 1 A n (bv l)) (hB : B ≤ w.heap.size) :
    Calls Try.prog 97 #[.slice A n c] w fun e w' => e = .returned (.int .u32 ((crcN l : Nat) : Int)) ∧ Below w.heap.size w w' := by
  have C1 := Lib.hid new_any
  have C2 := Lib.hid (add_any 0 A n c)
  have C3 := Lib.hid ssum_any
  go_enter Try.func97, Try.ntmps97
  go_wp2_with fail
  refine (C1.out _).mono ?_; rintro e w1 ⟨rfl, b1⟩
  go_wp2_with fail
  refine (C2.out B l _ (by omega) hn (hr.below (below_of_le b1 hB)) (by have := b1.size; omega)).mono ?_; rintro e w2 ⟨rfl, b2⟩
  go_wp2_with fail
  refine (C3.out _ _).mono ?_; rintro e w3 ⟨rfl, b3⟩
  go_wp2
  go_ret
  exact ⟨rfl, below_step (below_step b1 b2) b3⟩
theorem rstep_any (s : Nat) (c : UInt8) (hs : s < 4294967296) (w : World) :
    Calls Try.prog 120 #[.int .u32 s, .int .u8 (c.toNat : Int)] w fun e w' => e = .returned (.int .u32 ((stpN 8 (s ^^^ c.toNat) : Nat) : Int)) ∧ w = w' := by
  have hcb := c.toNat_lt
  have hY := xor_byte_lt hs c
  obtain ⟨x, hx⟩ : ∃ x, c.toNat = x := ⟨_, rfl⟩
  rw [hx] at hcb hY ⊢
  clear hx
  have e1 : bits .xor .u32 (s : Int) (x : Int) = ((s ^^^ x : Nat) : Int) := u32_xor_nat s x hs (by omega)
  generalize s ^^^ x = Y at *
  go_enter Try.func120, Try.ntmps120
  go_wp2
  go_loop [0, 5] (fun y i => ∃ j : Nat, j ≤ 8 ∧ i = .int .i64 j ∧ y = .int .u32 ((stpN j Y : Nat) : Int)) (fun _ i => 8 - (intOf i).toNat)
  case atStart => exact ⟨0, by omega, rfl, rfl⟩
  case round =>
    obtain ⟨j, hj, rfl, rfl⟩ := hrel
    have hX := stpN_lt j hY
    by_cases hlt : j < 8
    · have hst := stpN_succ j Y
      generalize stpN j Y = X at *
      have HS := Lib.hid hst
      clear hst
      have hx := u32_xor_nat (X / 2) 3988292384 (by omega) (by omega)
      have e2 : ((X / 2 : Nat) : Int) = (X : Int) / 2 := by simp
      rw [e2] at hx
      by_cases h1 : X % 2 = 1
      · have t1 : ((X : Int) % 2 == 1) = true := by rw [beq_iff_eq]; omega
        have hs2 : stp X = (X / 2) ^^^ 3988292384 := by unfold stp; rw [if_pos h1]
        have HT := Lib.hid hs2
        clear hs2
        generalize (X / 2) ^^^ 3988292384 = V at *
        go_wp2
        go_round
        case rel => exact ⟨j + 1, by omega, by go_num, by rw [HS.out, HT.out]; simp at hx; first | rw [hx] | rfl⟩
        case measure => simp [intOf]; omega
      · have t1 : ((X : Int) % 2 == 1) = false := by rw [beq_eq_false_iff_ne]; omega
        have hs2 : stp X = X / 2 := by unfold stp; rw [if_neg h1]
        have HT := Lib.hid hs2
        clear hs2
        go_wp2
        go_round
        case rel => exact ⟨j + 1, by omega, by go_num, by rw [HS.out, HT.out]; go_num⟩
        case measure => simp [intOf]; omega
    · have : j = 8 := by omega
      subst this
      go_wp2
      go_ret
      exact ⟨rfl, rfl⟩
theorem rsum_any (A : Option Addr) (n c B : Nat) (l : List UInt8) (w : World) (hn : n ≤ 9223372036854775807) (hr : Rd w B 1 A n (bv l)) :
    Calls Try.prog 101 #[.slice A n c] w fun e w' => e = .returned (.int .u32 ((crcN l : Nat) : Int)) ∧ w = w' := by
  have hl : l.length = n := by have := hr.len; rw [bv_length] at this; exact this
  have C1 := Lib.hid rstep_any
  go_enter Try.func101, Try.ntmps101
  go_wp2
  go_loop [3, 4] (fun x i => ∃ j : Nat, j ≤ n ∧ i = .int .i64 j ∧ x = .int .u32 ((reg 4294967295 (l.take j) : Nat) : Int)) (fun _ i => n - (intOf i).toNat)
  case atStart => exact ⟨0, Nat.zero_le _, rfl, rfl⟩
  case round =>
    obtain ⟨j, hj, rfl, rfl⟩ := hrel
    have hX := reg_lt (s := 4294967295) (by omega) (l.take j)
    by_cases hlt : j < n
    · obtain ⟨b, o, rfl, _, hc⟩ := hr.byte hlt
      have hst : reg 4294967295 (l.take (j + 1)) = stpN 8 (reg 4294967295 (l.take j) ^^^ (l.getD j 0).toNat) := by
        rw [List.take_succ_eq_append_getElem (by omega), reg_append, reg_cons, reg_nil]
        simp [List.getD, List.getElem?_eq_getElem (show j < l.length by omega)]
      have HS := Lib.hid hst
      clear hst
      generalize l.getD j 0 = c at *
      generalize reg 4294967295 (l.take j) = X at *
      go_wp2_with fail
      refine (C1.out X c hX _).mono ?_; rintro e w' ⟨rfl, rfl⟩
      go_wp2
      go_round
      case rel => exact ⟨j + 1, by omega, by go_num, by rw [HS.out]⟩
      case measure => simp [intOf]; omega
    · have : j = n := by omega
      subst this
      rw [List.take_of_length_le (by omega)] at hX ⊢
      have hdef : crcN l = 4294967295 - reg 4294967295 l := rfl
      have HD := Lib.hid hdef
      clear hdef
      generalize reg 4294967295 l = X at *
      go_wp2
      go_ret
      refine ⟨ret_int ?_, rfl⟩
      rw [HD.out]
      omega
end Go.Proofs.Ytjlmbdhjpjbneaa
