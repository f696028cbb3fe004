/- Layer 4 (frame): a frame is got again; awake. -/
import Derived.Test.YtjlmbdhjpjbneaaF6
import Derived.Test.YtjlmbdhjpjbneaaB4
import Derived.Laws.IdiomStrings
import Derived.Lib.SlBytesConst
namespace Go.Proofs.Ytjlmbdhjpjbneaa
open Go.RowKit
set_option linter.unusedVariables false
set_option maxRecDepth 100000

theorem fG_frm (l : List UInt8) (h : l.length ≤ 1048576) : fG (frm l) = (l, (frm l).length, 0) := by
  have hv : vget 0 0 (frm l) = (l.length, (vput l.length).length, 0) := by
    unfold frm
    rw [List.append_assoc]
    exact vget_put _ _ (by omega)
  have hL : (frm l).length = (vput l.length).length + l.length + 4 := by
    unfold frm
    rw [List.length_append, List.length_append, leB_length]
  have hX := crcN_lt l
  have d1 : (frm l).drop (vput l.length).length = l ++ leB (crcN l) 4 := by
    unfold frm
    rw [List.append_assoc, List.drop_left' rfl]
  have d2 : (frm l).drop ((vput l.length).length + l.length) = leB (crcN l) 4 := by
    rw [← List.drop_drop, d1, List.drop_left' rfl]
  unfold fG
  rw [hv]
  simp only [ne_eq, not_true_eq_false, if_false]
  rw [if_neg (by omega), if_neg (by omega), d1, d2, List.take_left' rfl, List.take_of_length_le (by rw [leB_length]; omega), ofLe_leB _ _ (by omega)]
  simp [hL]
theorem own_at4 {w : World} {base n c g : Nat} {l : List UInt8} (h : Own w base 5 1 (some ⟨g, 0, none⟩) n c (bv l)) (k : Nat) {x : UInt8} (hk : l[k]? = some x) : w.cell? ⟨g, k, none⟩ = some (.int .u8 (x.toNat : Int)) := by
  have := h.1.cells (g := g) rfl k (.int .u8 (x.toNat : Int)) (by rw [bv_get?, hk]; rfl)
  have e0 : (⟨g, 0, none⟩ : Addr).add k = ⟨g, k, none⟩ := by by_cases hj : k = 0 <;> simp [Addr.add, hj]
  rw [e0] at this
  exact this
set_option maxHeartbeats 2000000 in
theorem awake04_any (w : World) : Calls Try.prog 53 #[] w fun e w' => e = .returned (.bool true) ∧ Below w.heap.size w w' := by
  have hl7 : (frm [97, 98]).length = 7 := by
    unfold frm
    rw [List.length_append, List.length_append, leB_length, show ([97, 98] : List UInt8).length = 2 from rfl, vput_small (by decide)]
    rfl
  have hf0 : (frm [97, 98])[0]? = some 2 := by
    unfold frm
    rw [show ([97, 98] : List UInt8).length = 2 from rfl, vput_small (by decide)]
    rfl
  have C1 := Lib.hid (fun (w : World) A' c' hr' => fput_any none A' 0 2 0 c' [] [97, 98] w Rd.nil_ hr' (by omega) (by omega))
  have C2 := fun (w : World) A c hr h1 h2 => fget_any A 7 c (frm [97, 98]) w hr (by omega) h1 h2
  rw [fG_frm _ (by decide), hl7] at C2
  have C2' := Lib.hid C2
  have C3 := fun (w : World) => fsize_any 2 w (by omega) (by omega)
  have hsz : szI 2 = 7 := by
    unfold szI
    rw [if_pos (by decide), ← vsize_eq, show (2 : Int).toNat = 2 from rfl, vput_small (by decide)]
    rfl
  rw [hsz] at C3
  have C3' := Lib.hid C3
  simp only [List.nil_append] at C1
  generalize frm [97, 98] = F at *
  have kc := fun (w : World) (C : Array Value) (n c : Nat) => Lib.run_convert_bytes_const (P := Try.prog) w 62 5 C n c Try.underlying62 Try.underlying5
  clear C2 C3 hsz
  go_enter Try.func53, Try.ntmps53
  go_wp2_with fail
  clear kc
  refine (C1.out _ (some ⟨w.heap.size, 0, none⟩) _ ((Rd.freshM _ _ _ _ 2 rfl).more (by simp))).mono ?_; rintro e w1 ⟨A1, c1, rfl, o1, b1⟩
  rw [hl7] at o1 ⊢
  obtain ⟨g, rfl, hg, hg'⟩ := own_form o1 (by omega)
  have B1 := Lib.hid (below_step ((Below.refl _ _).alloc (Nat.le_refl _) _) b1)
  clear C1 b1
  go_wp2_with fail
  refine (C2'.out w1 _ _ o1.rd o1.2.1 o1.2.2).mono ?_; rintro e w2 ⟨A2, c2, rfl, o2, b2⟩
  have o12 := o1.below b2 (Nat.le_refl _)
  have k0 : w2.cell? ⟨g, 0, none⟩ = some (.int .u8 2) := own_at4 o12 0 hf0
  obtain ⟨g2, rfl, hg2, hg2'⟩ := own_form o2 (by simp)
  have hcv : (convert 62 9 (.slice (some ⟨g2, 0, none⟩) 2 c2)).run Try.prog w2 = .ok (.string ⟨#[97, 98]⟩) w2 :=
    run_convert_bytes_back (P := Try.prog) w2 62 9 5 ⟨g2, 0, none⟩ c2 [97, 98] Try.underlying62 Try.underlying5 Try.underlying9 (fun j hj => by
      have e0 : (⟨g2, 0, none⟩ : Addr).add j = ⟨g2, j, none⟩ := by by_cases h : j = 0 <;> simp [Addr.add, h]
      rw [e0]
      exact own_at4 o2 j (List.getElem?_eq_getElem hj))
  have B2 := Lib.hid (B1.out.trans (below_of_le b2 (by have := B1.out.size; omega)))
  clear o1 o12 o2 b2 B1 C2'
  go_wp2_with fail
  refine (C3'.out _).mono ?_; rintro e w3 ⟨rfl, rfl⟩
  go_wp2
  go_ret
  exact ⟨rfl, B2.out⟩
end Go.Proofs.Ytjlmbdhjpjbneaa
