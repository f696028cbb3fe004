/- Layer 5 (pack): the law's 'awake'. -/
import Derived.Test.YtjlmbdhjpjbneaaP6
import Derived.Test.YtjlmbdhjpjbneaaB4
namespace Go.Proofs.Ytjlmbdhjpjbneaa
open Go.RowKit
set_option linter.unusedVariables false
set_option maxRecDepth 100000

theorem own_at {w : World} {base n c g : Nat} {l : List UInt8} (h : Own w base 5 1 (some ⟨g, 0, none⟩) n c (bv l)) (k : Nat) {x : UInt8} (hk : l[k]? = some x) : w.cell? ⟨g, k, none⟩ = some (.int .u8 (x.toNat : Int)) := by
  have := h.1.cells (g := g) rfl k (.int .u8 (x.toNat : Int)) (by rw [bv_get?, hk]; rfl)
  have e0 : (⟨g, 0, none⟩ : Addr).add k = ⟨g, k, none⟩ := by by_cases hj : k = 0 <;> simp [Addr.add, hj]
  rw [e0] at this
  exact this
def sA : ByteArray := ⟨#[97]⟩
theorem tv_ft : tv [false, true] = [.bool false, .bool true] := rfl
set_option maxHeartbeats 2000000 in
theorem awake05_any (w : World) : Calls Try.prog 40 #[] w fun e w' => e = .returned (.bool true) ∧ Below w.heap.size w w' := by
  have e1 : ([] : List UInt8) ++ vput 300 = [172, 2] := by rw [vput_300]; rfl
  have e2 : ([172, 2] : List UInt8) ++ (vput sA.size ++ sb sA) = [172, 2, 1, 97] := by
    rw [show sA.size = 1 from rfl, vput_small (by decide)]
    rfl
  have e3 : ([172, 2, 1, 97] : List UInt8) ++ [flB [false, true]] = [172, 2, 1, 97, 2] := by decide
  have e4 : ([172, 2, 1, 97, 2] : List UInt8) = vput 300 ++ [1, 97, 2] := by rw [vput_300]; rfl
  have e5 : ([1, 97, 2] : List UInt8) = vput sA.size ++ (sb sA ++ [2]) := by
    rw [show sA.size = 1 from rfl, vput_small (by decide)]
    rfl
  have C1 := Lib.hid (fun (w : World) base b A c h hb => wnum_any w base b A c [] 300 h hb (by simp) (by omega))
  have C2 := Lib.hid (fun (w : World) base b A c h hb => wtext_any w base b A c [172, 2] sA h hb (by simp) (by decide))
  have C3 := Lib.hid (fun (w : World) base b A c FA B h hb hr => wflags_any w base b A c [172, 2, 1, 97] FA 2 2 B [false, true] h hb (by simp) hr (by omega))
  have C4 := Lib.hid (fun (w : World) base b A c h => wbytes_any w base b A c [172, 2, 1, 97, 2] h (by simp))
  have C5 := Lib.hid (fun (w : World) A c hr h1 h2 => read_any w A 5 c [172, 2, 1, 97, 2] hr h1 h2)
  have C6 := fun (w : World) b A n c h => rnum_any w b A n c [172, 2, 1, 97, 2] 0 1000 h
  have C7 := fun (w : World) b A n c h => rtext_put sA [2] w b A n c 5 h (by decide) (by omega)
  have C8 := Lib.hid (fun (w : World) b A n c h => rleft_any w b A n c [2] 0 h)
  have C9 := Lib.hid (fun (w : World) b A n c h => rerr_any w b A n c [2] 0 h)
  rw [e4, rnumR_putx _ (by omega) (by omega), ← e4] at C6
  rw [← e5] at C7
  simp only [e1] at C1
  simp only [e2] at C2
  simp only [e3] at C3
  have C6' := Lib.hid C6
  have C7' := Lib.hid C7
  have hsA : sA = ⟨#[97]⟩ := rfl
  rw [hsA] at C2 C7'
  have hW0 := Lib.hid (wr_new w w.heap.size (Nat.le_refl _))
  have hb0 := Lib.hid ((Below.refl w.heap.size w).alloc (Nat.le_refl _) (.cells #[.slice none 0 0] 64))
  clear e1 e2 e3 e4 e5 C6 C7 hsA
  go_enter Try.func40, Try.ntmps40
  go_wp2_with fail
  generalize (w.alloc (.cells #[.slice none 0 0] 64)) = W0 at *
  generalize hN : w.heap.size = N at *
  have hz0 := hW0.out.2.1.lt
  refine (C1.out W0 N N none 0 hW0.out (by omega)).mono ?_; rintro e w1 ⟨A1, c1, rfl, h1, st1⟩
  have b1 : Below N W0 w1 := st1.1.below (by rintro k hk (e | e); omega; simp [bl] at e) (by omega)
  have B1 := Lib.hid (hb0.out.trans b1)
  have hz1 := h1.2.1.lt
  clear C1 hW0 hb0 st1 b1
  go_wp2_with fail
  refine (C2.out w1 N N A1 c1 h1 (by omega)).mono ?_; rintro e w2 ⟨A2, c2, rfl, h2, st2⟩
  have hA1 : ∀ g, bl A1 = some g → N ≤ g := fun g hg => (h1.2.2.block_lt g (by rw [ownBlock_bl]; exact hg)).1
  have b2 : Below N w1 w2 := st2.1.below (by rintro k hk (e | e); omega; have := hA1 k e; omega) (by omega)
  have B2 := Lib.hid ((B1.out.trans b2).alloc (by have := h2.2.1.lt; omega) (.cells #[.bool false, .bool true] 4))
  have h2' := h2.below (Below.alloc (Below.refl _ _) (Nat.le_refl _) (.cells #[.bool false, .bool true] 4))
  have r2 : Rd (w2.alloc (.cells #[.bool false, .bool true] 4)) (w2.heap.size + 1) 1 (some ⟨w2.heap.size, 0, none⟩) 2 (tv [false, true]) := Rd.fresh w2 #[.bool false, .bool true] 4 2 rfl
  have hz2 := h2'.2.1.lt
  clear C2 h1 st2 B1 b2 hA1 h2
  go_wp2_with fail
  generalize (w2.alloc (.cells #[.bool false, .bool true] 4)) = W2 at *
  refine (C3.out W2 N N A2 c2 _ _ h2' (by omega) r2).mono ?_; rintro e w3 ⟨A3, c3, rfl, h3, st3⟩
  have hA2 : ∀ g, bl A2 = some g → N ≤ g := fun g hg => (h2'.2.2.block_lt g (by rw [ownBlock_bl]; exact hg)).1
  have b3 : Below N W2 w3 := st3.1.below (by rintro k hk (e | e); omega; have := hA2 k e; omega) (by omega)
  have B3 := Lib.hid (B2.out.trans b3)
  have hz3 := h3.2.1.lt
  clear C3 h2' st3 B2 b3 hA2 r2
  go_wp2_with fail
  refine (C4.out w3 N N A3 c3 h3).mono ?_; rintro e w4 ⟨A4, c4, rfl, o4, b4⟩
  have hz4 := b4.size
  have B4 := Lib.hid (B3.out.trans (below_of_le b4 (by omega)))
  obtain ⟨g4, rfl, hg4, hg4'⟩ := own_form o4 (by simp)
  clear C4 h3 B3 b4
  go_wp2_with fail
  refine (C5.out w4 (some ⟨g4, 0, none⟩) c4 o4.rd o4.2.1 o4.2.2).mono ?_; rintro e w5 ⟨rfl, hR5, b5⟩
  have hz5 := hR5.1.lt
  have o5 := Lib.hid (o4.below b5 (Nat.le_refl _))
  have B5 := Lib.hid (B4.out.trans (below_of_le b5 (by omega)))
  clear C5 o4 B4 b5
  generalize w4.heap.size = rp at *
  go_wp2_with fail
  refine (C6'.out w5 rp _ _ _ hR5).mono ?_; rintro e w6 ⟨A6, n6, c6, rfl, hR6, h6⟩
  have o6 := Lib.hid (o5.out.ch h6 (by intro k hk _ hg h; have h' : k = rp := h; simp [bl] at hg; omega))
  have B6 := Lib.hid (B5.out.trans (h6.below (by intro k hk h; have h' : k = rp := h; omega) (by omega)))
  have hz6 := hR6.1.lt
  clear C6' hR5 h6 o5 B5
  go_wp2_with fail
  refine (C7'.out w6 rp _ _ _ hR6).mono ?_; rintro e w7 ⟨A7, n7, c7, rfl, hR7, h7⟩
  have o7 := o6.out.ch h7 (by intro k hk _ hg h; have h' : k = rp := h; simp [bl] at hg; omega)
  have B7 := Lib.hid (B6.out.trans (h7.below (by intro k hk h; have h' : k = rp := h; omega) (by omega)))
  have k0 : w7.cell? ⟨g4, 0, none⟩ = some (.int .u8 172) := own_at o7 0 rfl
  have k4 : w7.cell? ⟨g4, 4, none⟩ = some (.int .u8 2) := own_at o7 4 rfl
  have C8' := Lib.hid (C8.out w7 rp _ _ _ hR7)
  have C9' := Lib.hid (C9.out w7 rp _ _ _ hR7)
  clear C7' hR6 h7 o6 B6 o7 C8 C9 hR7
  go_wp2_with fail
  refine (C8'.out).mono ?_; rintro e w8 ⟨rfl, rfl⟩
  go_wp2_with fail
  refine (C9'.out).mono ?_; rintro e w8 ⟨rfl, rfl⟩
  go_wp2
  go_ret
  exact ⟨rfl, hN ▸ B7.out⟩
end Go.Proofs.Ytjlmbdhjpjbneaa
