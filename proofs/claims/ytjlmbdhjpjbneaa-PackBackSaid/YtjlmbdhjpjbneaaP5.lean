/- Layer 5 (pack): the reader's Text, of a text that was packed. -/
import Derived.Test.YtjlmbdhjpjbneaaP4
import Derived.Test.YtjlmbdhjpjbneaaD11
import Derived.Test.YtjlmbdhjpjbneaaW4
namespace Go.Proofs.Ytjlmbdhjpjbneaa
open Go.RowKit
set_option linter.unusedVariables false
set_option maxRecDepth 100000

/-- 'string(b)' of bytes that read as s. -/
theorem bytes_str (A : Option Addr) (c B : Nat) (s : ByteArray) (w : World) (hr : Rd w B 1 A s.size (bv (sb s))) :
    (convert 62 9 (.slice A s.size c)).run Try.prog w = .ok (.string s) w := by
  rcases A with _ | a
  · have h0 : s.size = 0 := by
      rcases Nat.eq_zero_or_pos s.size with h | h
      · exact h
      · obtain ⟨b, o, e, _⟩ := hr.2 (by omega)
        cases e
    have hs : s = ByteArray.empty := by
      have : s.data.size = 0 := h0
      obtain ⟨d⟩ := s
      simp at this
      subst this
      rfl
    subst hs
    rw [run_convert_bytes_string w _ _ 5 none _ _ Try.underlying62 Try.underlying5 Try.underlying9]
    rfl
  · have h := run_convert_bytes_back (P := Try.prog) w 62 9 5 a c (sb s) Try.underlying62 Try.underlying5 Try.underlying9 (fun j hj => by
      obtain ⟨b, o, e, _, hc⟩ := hr.2 (by rw [sb_length] at hj; omega)
      injection e with e
      subst e
      have e0 : (⟨b, o, none⟩ : Addr).add j = ⟨b, o + j, none⟩ := by by_cases h : j = 0 <;> simp [Addr.add, h]
      rw [e0]
      exact hc j _ (by rw [bv_get?, List.getElem?_eq_getElem hj]; rfl))
    rw [sb_length] at h
    rw [h]
    simp [sb]
section
variable {P : Program} (t : TypeId) (ht : P.underlying t = some (.slice (P.elem t))) (hs : ∀ w, (sizeOf (P.elem t)).run P w = .ok 1 w)
include ht hs
theorem run_from_u (A : Option Addr) (n c k : Nat) (hk : k ≤ n) (w : World) :
    (Instr.slice t (.slice A n c) (some (.int .u64 k)) none none).run P w = .ok (.slice (cutA A c k) (n - k) (c - k)) w := by
  rw [run_slice_l w t A n c ht .u64 k (by omega) (by omega), hs]
  simp [sliced, cutA, Result.andThen]
theorem run_to_u (A : Option Addr) (n c k : Nat) (hk : k ≤ c) (w : World) :
    (Instr.slice t (.slice A n c) none (some (.int .u64 k)) none).run P w = .ok (.slice A k c) w := by
  rw [run_slice_h w t A n c ht .u64 k (by omega) (by omega), hs]
  simp [sliced, Result.andThen]
  intro _
  exact add0 A
end
set_option maxHeartbeats 1000000 in
theorem rtext_put (s : ByteArray) (R : List UInt8) (w : World) (b : Nat) (A : Option Addr) (n c m : Nat) (h : Re w b A n c (vput s.size ++ (sb s ++ R)) 0) (hm : s.size ≤ m) (hm2 : m ≤ 9223372036854775807) :
    Calls Try.prog 65 #[.pointer (some ⟨b, 0, none⟩), .int .i64 m] w (REnd w b (R, 0) (.string s)) := by
  have C0 := Lib.hid (rmay_any w b A n c _ 0 h)
  have cn := rnum_any w b A n c _ 0 m h
  rw [rnumR_putx _ hm (by omega)] at cn
  have CN := Lib.hid cn
  have hc0 := h.cell0
  have hc1 := h.cell1
  have t0 : ¬ ((m : Int) < 0) := by omega
  have y0 : IntKind.u64.wrap (m : Int) = (m : Int) := by rw [IntKind.wrap_u64]; omega
  have y1 : (m : Int) % 18446744073709551616 = (m : Int) := by omega
  have tt : ((0 : Int) == 0) = true := rfl
  rw [tt] at C0
  clear cn h
  go_enter Try.func65, Try.ntmps65
  go_wp2_with fail
  refine (C0.out).mono ?_; rintro e w1 ⟨rfl, rfl⟩
  go_wp2_with fail
  refine (CN.out).mono ?_; rintro e w2 ⟨A2, n2, c2, rfl, hR, h2⟩
  have hl := hR.len
  have hn2 : n2 = s.size + R.length := by rw [← hl, List.length_append, sb_length]
  have hc20 := hR.cell0
  have hc21 := hR.cell1
  have hnc := hR.2.2.1
  have hcm : c2 ≤ 9223372036854775807 := hR.2.2.2
  have hf0 := hR.1.free 0
  have t1 : decide ((n2 : Int) < (s.size : Int)) = false := by simp; omega
  have t2 : decide (n2 < s.size) = false := by simp; omega
  have t3 : ¬ n2 < s.size := by omega
  have y3 : IntKind.u64.wrap (n2 : Int) = (n2 : Int) := by rw [IntKind.wrap_u64]; omega
  have y4 : (n2 : Int) % 18446744073709551616 = (n2 : Int) := by omega
  have hs1 : ∀ w, (sizeOf (Try.prog.elem 62)).run Try.prog w = .ok 1 w := fun w => by kernel_rfl
  have hto := fun w => run_to_u (P := Try.prog) 62 (by kernel_rfl) hs1 A2 n2 c2 s.size (by omega) w
  have hfrom := fun w => run_from_u (P := Try.prog) 62 (by kernel_rfl) hs1 A2 n2 c2 s.size (by omega) w
  have hr2 : Rd w2 b 1 (cutA A2 c2 s.size) (n2 - s.size) (bv R) := by
    have := hR.2.1.cutA_ (k := s.size) (by omega) hnc
    rw [← bv_drop, List.drop_left' (sb_length s)] at this
    exact this
  have hr1 : Rd w2 b 1 A2 s.size (bv (sb s)) := by
    have := hR.2.1.front (k := s.size) (by omega)
    rw [← bv_take, List.take_left' (sb_length s)] at this
    exact this
  have hcv := bytes_str A2 c2 b s w2 hr1
  have HR := Lib.hid hR
  have hh : n2 - s.size ≤ c2 - s.size := by omega
  have hh2 : c2 - s.size ≤ maxLen := by simp only [maxLen]; omega
  have HC := Lib.hid h2
  clear hr1 hR h2 C0 CN hc0 hc1 hn2 hl hs1
  generalize cutA A2 c2 s.size = A3 at *
  generalize n2 - s.size = n3 at *
  generalize c2 - s.size = c3 at *
  go_wp2
  go_ret
  exact ⟨A3, n3, c3, rfl, HR.out.set0 hr2 hh hh2, HC.out.trans (Ch.set_ _ ⟨b, 0, none⟩ _) (fun k _ h => h)⟩
end Go.Proofs.Ytjlmbdhjpjbneaa
