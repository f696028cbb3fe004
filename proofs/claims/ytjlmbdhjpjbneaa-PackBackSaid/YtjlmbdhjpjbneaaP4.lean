/- Layer 5 (pack): the document's Text and Flags. -/
import Derived.Test.YtjlmbdhjpjbneaaP3
import Derived.Test.YtjlmbdhjpjbneaaD10
import Derived.Laws.IdiomStrings
namespace Go.Proofs.Ytjlmbdhjpjbneaa
open Go.RowKit
set_option linter.unusedVariables false
set_option maxRecDepth 100000

/-- '[]byte(s)'. -/
theorem str_bytes (s : ByteArray) (w : World) : ∃ C fr cap, (convert 9 62 (.string s)).run Try.prog w = .ok (.slice (some ⟨w.heap.size, 0, none⟩) s.size cap) (w.drew.alloc (.cells C 5 fr)) ∧ ∀ (j : Nat) (u : Value), (bv (sb s))[j]? = some u → C[j]? = some u := by
  refine ⟨_, _, _, run_bytes_of_string w 9 62 5 s Try.underlying9 Try.underlying62 Try.underlying5, fun j u hu => ?_⟩
  rw [bv_get?] at hu
  have hj : j < s.data.size := by
    rcases Nat.lt_or_ge j s.data.size with h | h
    · exact h
    · rw [sb, List.getElem?_eq_none (by simpa using h)] at hu
      cases hu
  rw [bytesRow_at s _ j hj, ← hu]
  simp [sb]
  rw [Array.getElem?_eq_getElem hj]
  rfl
theorem rd_bytes {w : World} {C : Array Value} {fr : Nat × Nat} {s : ByteArray} (h : ∀ (j : Nat) (u : Value), (bv (sb s))[j]? = some u → C[j]? = some u) :
    Rd (w.alloc (.cells C 5 fr)).drew (w.heap.size + 1) 1 (some ⟨w.heap.size, 0, none⟩) s.size (bv (sb s)) := by
  refine ⟨by simp [bv_length, sb_length], fun _ => ⟨w.heap.size, 0, rfl, by omega, fun j u hu => ?_⟩⟩
  rw [Nat.zero_add]
  exact (World.cell?_alloc_mark w C 5 fr j).trans (h j u hu)
theorem rtext5_any (s : ByteArray) (hs : s.size ≤ 1000000) (w : World) : Calls Try.prog 45 #[.string s] w (NewB w (vput s.size ++ sb s)) := by
  obtain ⟨i0, hi, hz0, hz1, hz2⟩ := info_parts Try.info_by
  have C1 := Lib.hid (rnum5_any s.size w (by omega))
  have y1 : IntKind.u64.wrap (s.size : Int) = (s.size : Int) := by rw [IntKind.wrap_u64]; omega
  have z1 : (s.size : Int) % 18446744073709551616 = s.size := by omega
  have l1 := vput_le (x := s.size) (by omega)
  go_enter Try.func45, Try.ntmps45
  go_wp2_with fail
  refine (C1.out).mono ?_; rintro e w1 ⟨A1, c1, rfl, o1, b1⟩
  obtain ⟨C, fr, cap, hcv, hC⟩ := str_bytes s w1
  have r1 := Lib.hid (rd_bytes (w := w1) (fr := fr) hC)
  have hb1 := b1.size
  have o1' := Lib.hid (o1.alloc (.cells C 5 fr)).drew
  have b1' := Lib.hid (b1.alloc (by omega) (.cells C 5 fr)).drew
  have hsz : w1.heap.size < (w1.alloc (.cells C 5 fr)).drew.heap.size := by show w1.heap.size < (w1.alloc (.cells C 5 fr)).heap.size; simp
  clear hC o1 b1 C1
  go_wp2_with (
    at_builtin
    refine wpList_append_rd (w1.alloc (.cells C 5 fr)).drew rfl _ _ 62 rfl w.heap.size 5 i0 (.int .u8 0) 1 1 Try.underlying62 hi hz0 hz1 hz2 rfl (by decide) (by decide) A1 (vput s.size).length c1 (bv (vput s.size)) rfl o1'.out (w1.heap.size + 1) _ s.size cap (bv (sb s)) rfl r1.out (bv_oneCell _) (by omega) (by omega) ?_
    intro A2 c2 w2 o2 b2
    rw [← bv_append] at o2)
  go_ret
  have hL : (vput s.size).length + s.size = (vput s.size ++ sb s).length := by simp [sb_length]
  rw [hL] at o2 ⊢
  exact ⟨A2, c2, rfl, o2, b1'.out.trans b2⟩
set_option maxHeartbeats 1000000 in
theorem rflags5_any (FA : Option Addr) (n fc B : Nat) (fl : List Bool) (w : World) (hr : Rd w B 1 FA n (tv fl)) (hn : n ≤ 1000000) :
    Calls Try.prog 46 #[.slice FA n fc] w (NewB w [flB fl]) := by
  have hlen : fl.length = n := by have := hr.len; simpa [tv] using this
  go_enter Try.func46, Try.ntmps46
  go_wp2
  go_loop [3, 4, 5] (fun x y i => ∃ j : Nat, j ≤ n ∧ j ≤ 8 ∧ i = .int .i64 j ∧ x = .int .i64 ((flV fl j : Nat) : Int) ∧ y = .int .i64 ((2 ^ j : Nat) : Int)) (fun _ _ i => n - (intOf i).toNat)
  case atStart => exact ⟨0, by omega, by omega, rfl, rfl, rfl⟩
  case round =>
    obtain ⟨j, hj, hj8, rfl, rfl, rfl⟩ := hrel
    by_cases hlt2 : j < n ∧ j < 8
    · obtain ⟨hlt2, h8⟩ := hlt2
      obtain ⟨g, o, u, rfl, _, hu, hcell⟩ := hr.at_ hlt2
      rw [tv_get fl j (by omega)] at hu
      injection hu with hu
      subst hu
      have hs : flV fl (j + 1) = flV fl j + (if j < 8 ∧ fl.getD j false = true then 2 ^ j else 0) := rfl
      have hv := flV_256 fl j
      have hp : 2 ^ j ≤ 2 ^ 7 := Nat.pow_le_pow_right (by omega) (by omega)
      have hpp : 2 ^ (j + 1) = 2 ^ j * 2 := Nat.pow_succ 2 j
      generalize 2 ^ j = p at *
      cases hbit : fl.getD j false
      · rw [hbit] at hcell hs
        rw [if_neg (by simp)] at hs
        go_wp2
        go_round
        case rel => exact ⟨j + 1, by omega, by omega, by go_num, by rw [hs]; rfl, by rw [hpp]; go_num⟩
        case measure => simp [intOf]; omega
      · rw [hbit] at hcell hs
        rw [if_pos ⟨h8, rfl⟩] at hs
        go_wp2
        go_round
        case rel => exact ⟨j + 1, by omega, by omega, by go_num, by rw [hs]; go_num, by rw [hpp]; go_num⟩
        case measure => simp [intOf]; omega
    · have hF : flV fl j = (flB fl).toNat := by
        have h256 := flV_256 fl fl.length
        simp only [flB, UInt8.toNat_ofNat']
        by_cases h : j = n
        · subst h
          rw [hlen] at h256 ⊢
          omega
        · have : j = 8 := by omega
          subst this
          rw [flV_more fl fl.length (by omega)]
          have := flV_256 fl 8
          omega
      have h256 := (flB fl).toNat_lt
      have hm : ((flB fl).toNat : Int) % 256 = ((flB fl).toNat : Int) := by omega
      rw [hF]
      have hb0 := Lib.hid ((Below.refl w.heap.size w).alloc (Nat.le_refl _) (.cells #[.int .u8 ((flB fl).toNat : Int)] 5))
      have ho0 := Lib.hid (show Own (w.alloc (.cells #[.int .u8 ((flB fl).toNat : Int)] 5)) w.heap.size 5 1 (some ⟨w.heap.size, 0, none⟩) 1 1 (bv [flB fl]) from
        ⟨World.ownsRow_lit _ #[.int .u8 ((flB fl).toNat : Int)] 1 (Nat.le_refl _) (by simp [maxLen]) rfl, Nat.le_refl _, by simp [maxLen]⟩)
      clear hF
      by_cases hn2 : j < n
      · have t2 : ¬ j < 8 := by omega
        go_wp2
        go_ret
        exact ⟨_, 1, rfl, ho0.out, hb0.out⟩
      · go_wp2
        go_ret
        exact ⟨_, 1, rfl, ho0.out, hb0.out⟩
end Go.Proofs.Ytjlmbdhjpjbneaa
