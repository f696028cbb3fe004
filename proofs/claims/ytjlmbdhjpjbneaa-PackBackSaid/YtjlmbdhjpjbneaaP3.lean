/- Layer 5 (pack): the writer's flags. -/
import Derived.Test.YtjlmbdhjpjbneaaD6
namespace Go.Proofs.Ytjlmbdhjpjbneaa
open Go.RowKit
set_option linter.unusedVariables false
set_option maxRecDepth 100000

/-- Flags as a number, the first j of them. -/
def flV (fl : List Bool) : Nat → Nat
  | 0 => 0
  | j + 1 => flV fl j + (if j < 8 ∧ fl.getD j false = true then 2 ^ j else 0)
theorem flV_lt (fl : List Bool) : ∀ j, j ≤ 8 → flV fl j < 2 ^ j
  | 0, _ => by simp [flV]
  | j + 1, h => by
    have ih := flV_lt fl j (by omega)
    have e : 2 ^ (j + 1) = 2 ^ j + 2 ^ j := by rw [Nat.pow_succ]; omega
    simp only [flV]
    split <;> omega
theorem flV_more (fl : List Bool) : ∀ j, 8 ≤ j → flV fl j = flV fl 8
  | 0, h => by omega
  | j + 1, h => by
    by_cases hj : j = 7
    · subst hj; rfl
    · simp only [flV]
      rw [if_neg (by omega), Nat.add_zero]
      exact flV_more fl j (by omega)
theorem flV_256 (fl : List Bool) (j : Nat) : flV fl j < 256 := by
  by_cases h : j ≤ 8
  · have := flV_lt fl j h
    have : 2 ^ j ≤ 2 ^ 8 := Nat.pow_le_pow_right (by omega) h
    omega
  · rw [flV_more fl j (by omega)]
    exact flV_lt fl 8 (by omega)
def flB (fl : List Bool) : UInt8 := UInt8.ofNat (flV fl fl.length)
def tv (l : List Bool) : List Value := l.map Value.bool
theorem tv_get (l : List Bool) (j : Nat) (h : j < l.length) : (tv l)[j]? = some (.bool (l.getD j false)) := by
  simp [tv, List.getD, List.getElem?_eq_getElem h]
theorem flags_or : ∀ j : Fin 8, ∀ c : Fin 128, c.1 < 2 ^ j.1 → bits .or .u8 (c.1 : Int) ((2 ^ j.1 : Nat) : Int) = ((c.1 + 2 ^ j.1 : Nat) : Int) := by decide +kernel
theorem own_ne_whole {w : World} {base b n c : Nat} {A : Option Addr} {l : List UInt8} {cs : Array Value} (ho : Own w base 5 1 A n c (bv l)) (hw : Whole w b 64 cs) : bl A ≠ some b := by
  intro e
  rcases ho.1.2 with ⟨hv, _⟩ | ⟨g, cap, cur, hv, h1, h2, h3⟩
  · injection hv with hA
    subst hA
    simp [bl] at e
  · injection hv with hA
    subst hA
    simp [bl] at e
    subst e
    have hw' : w.heap[g]? = some _ := hw
    rw [h2] at hw'
    simp at hw'
set_option maxHeartbeats 1000000 in
theorem wflags_any (w : World) (base b : Nat) (A : Option Addr) (c : Nat) (l : List UInt8) (FA : Option Addr) (n fc B : Nat) (fl : List Bool) (h : Wr w base b A c l) (hbase : base ≤ w.heap.size) (hl : l.length ≤ 1000000) (hr : Rd w B 1 FA n (tv fl)) (hn : n ≤ 1000000) :
    Calls Try.prog 82 #[.pointer (some ⟨b, 0, none⟩), .slice FA n fc] w (WEnd w base b A (l ++ [flB fl])) := by
  have hlen : fl.length = n := by have := hr.len; simpa [tv] using this
  obtain ⟨i0, hi, hz0, hz1, hz2⟩ := info_parts Try.info_by
  have h0 := Lib.hid h
  obtain ⟨hb, hw, ho⟩ := h
  have hc : w.cell? ⟨b, 0, none⟩ = some (.slice A l.length c) := by rw [hw.cell]; rfl
  have hf := hw.free 0
  have hlt := hw.lt
  go_enter Try.func82, Try.ntmps82
  go_wp2
  go_loop [5, 12] (fun x i => ∃ j : Nat, j ≤ n ∧ i = .int .i64 j ∧ x = .int .u8 ((flV fl j : Nat) : Int)) (fun _ i => n - (intOf i).toNat)
  case atStart => exact ⟨0, by omega, rfl, rfl⟩
  case round =>
    obtain ⟨j, hj, rfl, rfl⟩ := hrel
    by_cases hlt2 : j < n
    · obtain ⟨g, o, u, rfl, _, hu, hcell⟩ := hr.at_ hlt2
      rw [tv_get fl j (by omega)] at hu
      injection hu with hu
      subst hu
      have hs : flV fl (j + 1) = flV fl j + (if j < 8 ∧ fl.getD j false = true then 2 ^ j else 0) := rfl
      have hv := flV_256 fl j
      cases hbit : fl.getD j false
      · rw [hbit] at hcell hs
        rw [if_neg (by simp)] at hs
        go_wp2
        go_round
        case rel => exact ⟨j + 1, by omega, by go_num, by rw [hs]; rfl⟩
        case measure => simp [intOf]; omega
      · rw [hbit] at hcell hs
        by_cases h8 : j < 8
        · rw [if_pos ⟨h8, rfl⟩] at hs
          have hlo := flV_lt fl j (by omega)
          have hlo2 : flV fl j < 128 := by have : 2 ^ j ≤ 2 ^ 7 := Nat.pow_le_pow_right (by omega) (by omega); omega
          have hor := flags_or ⟨j, h8⟩ ⟨flV fl j, hlo2⟩ hlo
          simp only at hor
          have hc0 : ((2 ^ j : Nat) : Int) = (2 : Int) ^ j := by simp
          have hm : (2 : Int) ^ j % 256 = (2 : Int) ^ j := by
            have : 2 ^ j ≤ 2 ^ 7 := Nat.pow_le_pow_right (by omega) (by omega)
            rw [← hc0]
            omega
          rw [hc0, ← hs] at hor
          go_wp2
          go_round
          case rel => exact ⟨j + 1, by omega, by go_num, by rw [hs]; simp⟩
          case measure => simp [intOf]; omega
        · rw [if_neg (by omega)] at hs
          go_wp2
          go_round
          case rel => exact ⟨j + 1, by omega, by go_num, by rw [hs]; rfl⟩
          case measure => simp [intOf]; omega
    · obtain rfl : j = n := by omega
      have hF : flV fl j = (flB fl).toNat := by
        have := flV_256 fl fl.length
        simp only [flB, hlen, UInt8.toNat_ofNat']
        rw [hlen] at this
        omega
      rw [hF]
      have hbA := own_ne_whole ho hw
      have ho1 := Lib.hid (ho.alloc (.cells #[.int .u8 ((flB fl).toNat : Int)] 5))
      have hw1 := Lib.hid (hw.alloc (.cells #[.int .u8 ((flB fl).toNat : Int)] 5))
      have hAb : ∀ g, bl A = some g → base ≤ g ∧ g < w.heap.size := fun g hg => ho.block_lt g (by rw [ownBlock_bl]; exact hg)
      have hbv : bv l ++ [Value.int .u8 ((flB fl).toNat : Int)] = bv (l ++ [flB fl]) := by simp [bv]
      clear ho hF
      go_wp2_with (
        at_builtin
        refine wpList_append_rdn (P := Try.prog) _ (rfl) (.tmp 32) (.tmp 34) 62 rfl base 5 i0 (.int .u8 0) 1 1 Try.underlying62 hi hz0 hz1 hz2 rfl (by decide) (by decide) A l.length c (bv l) rfl ho1.out (w.heap.size + 1) _ 1 1 [.int .u8 ((flB fl).toNat : Int)] rfl (Rd.fresh w #[.int .u8 ((flB fl).toNat : Int)] 5 1 rfl) (by intro u hu; simp at hu; subst hu; rfl) (by omega) (by simp; omega) ?_
        intro A2 c2 w2 o2 g2 n2
        rw [hbv] at o2
        have hc2 := grown_ch g2
        have hw2 := hw1.out.ch hc2 (by intro e; exact hbA e.symm)
        have hcc : w2.cell? ⟨b, 0, none⟩ = some (.slice A l.length c) := by rw [hw2.cell]; rfl
        have hff := hw2.free 0
        have hchain := (Ch.alloc_ (fun k => some k = bl A) w (.cells #[.int .u8 ((flB fl).toNat : Int)] 5)).trans hc2 (fun k _ h => h)
        have hsz : w.heap.size ≤ w2.heap.size := hchain.size
        have n2' : ∀ g, bl A2 = some g → bl A = some g ∨ w.heap.size ≤ g := by
          intro g hg
          rcases n2 with h | h
          · exact .inl (h ▸ hg)
          · rw [h] at hg
            simp at hg
            exact .inr (by omega)
        clear hw1 ho1 hc hf g2 n2 hc2)
      go_ret
      have hLL : l.length + 1 = (l ++ [flB fl]).length := by simp
      rw [hLL] at o2 ⊢
      generalize l ++ [flB fl] = L at *
      have hne : bl A2 ≠ some b := by
        intro e
        rcases n2' b e with h | h
        · exact hbA h
        · omega
      refine ⟨A2, c2, rfl, ⟨hb, ?_, o2.far (by rw [ownBlock_bl]; exact hne) _⟩, ?_, n2'⟩
      · have := hw2.set_ 0 (.slice A2 L.length c2)
        simpa using this
      · refine (hchain.mono (S' := fun k => k = b ∨ bl A = some k) (fun k _ h => .inr h.symm)).trans (Ch.set_ w2 ⟨b, 0, none⟩ _) (fun k _ e => .inl e)
end Go.Proofs.Ytjlmbdhjpjbneaa
