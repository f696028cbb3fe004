/- Layer 4 (frame): rows of bytes; the document's Same; the frames that bytes begin with. -/
import Derived.Test.YtjlmbdhjpjbneaaF10
import Derived.Test.YtjlmbdhjpjbneaaW5
import Derived.Test.YtjlmbdhjpjbneaaO3
import Derived.Deep.RegionWith
import Derived.Deep.RegionHeld3
namespace Go.Proofs.Ytjlmbdhjpjbneaa
open Go.RowKit
set_option linter.unusedVariables false
set_option maxRecDepth 100000

/-- A slice value that reads as the bytes l. -/
def RdB (w : World) (u : Value) (l : List UInt8) : Prop := ∃ A c, u = .slice A l.length c ∧ Rd w w.heap.size 1 A l.length (bv l)
theorem RdB.below {w w' : World} {u : Value} {l : List UInt8} (h : RdB w u l) (hb : Below w.heap.size w w') : RdB w' u l := by
  obtain ⟨A, c, rfl, r⟩ := h
  exact ⟨A, c, rfl, (r.below hb).more hb.size⟩
/-- Slice values, one for each bytes of L. -/
def RdBs (w : World) (us : List Value) (L : List (List UInt8)) : Prop := us.length = L.length ∧ ∀ (i : Nat) (u : Value) (l : List UInt8), us[i]? = some u → L[i]? = some l → RdB w u l
theorem RdBs.below {w w' : World} {us : List Value} {L : List (List UInt8)} (h : RdBs w us L) (hb : Below w.heap.size w w') : RdBs w' us L :=
  ⟨h.1, fun i u l hu hl => (h.2 i u l hu hl).below hb⟩
set_option maxHeartbeats 1000000 in
theorem rsame04_any (L : List (List UInt8)) (A A' : Option Addr) (n m c c' : Nat) (us us' : List Value) (w : World) (hn : n ≤ 1000000000) (h1 : Rd w w.heap.size 1 A n us) (h2 : Rd w w.heap.size 1 A' m us')
    (r1 : RdBs w us L) (r2 : RdBs w us' L) (hs : ∀ l ∈ L, l.length ≤ 1000000000) :
    Calls Try.prog 61 #[.slice A n c, .slice A' m c'] w fun e w' => e = .returned (.bool true) ∧ Below w.heap.size w w' := by
  have e1 := h1.len
  have e2 := h2.len
  have el := r1.1
  have e3 : n = m := by have := r2.1; omega
  subst e3
  have hne : ((n : Int) != (n : Int)) = false := by simp
  go_enter Try.func61, Try.ntmps61
  go_wp2
  go_loopw [5] (fun i wr => ∃ j : Nat, j ≤ n ∧ i = .int .i64 j ∧ Below w.heap.size w wr) (fun i _ => n - (intOf i).toNat)
  case atStart => exact ⟨0, Nat.zero_le _, rfl, Below.refl _ _⟩
  case round =>
    obtain ⟨j, hj, rfl, hb⟩ := hrel
    by_cases hlt : j < n
    · obtain ⟨b, o, u, rfl, hb1, hu1, hc1⟩ := (h1.below hb).at_ hlt
      obtain ⟨b', o', u', rfl, hb2, hu2, hc2⟩ := (h2.below hb).at_ hlt
      have hL : L[j]? = some L[j] := List.getElem?_eq_getElem (by omega)
      obtain ⟨Ai, ci, rfl, ri⟩ := (r1.2 j u _ hu1 hL).below hb
      obtain ⟨Ai', ci', rfl, ri'⟩ := (r2.2 j u' _ hu2 hL).below hb
      have hll := hs L[j] (List.getElem_mem (by omega))
      have CS := Lib.hid (fun (w2 : World) (hb : Below wr.heap.size wr w2) => same_any L[j] Ai Ai' L[j].length L[j].length ci ci' wr.heap.size w2 (by omega) (ri.below hb) (ri'.below hb) hb.size)
      clear ri ri' hL hll hu1 hu2
      generalize L[j].length = lj at *
      go_wp2
      go_region_with ((go_at_call 47; refine (CS.out wr.drew ((Below.refl _ wr).drew)).mono ?_; rintro e w2 ⟨rfl, b2⟩))
      all_goals
        have b3 := below_step hb (show Below wr.heap.size wr w2 from ⟨b2.os, b2.tape, b2.output, b2.size, b2.block⟩)
        go_wp2
        go_roundw
        case rel => exact ⟨j + 1, by omega, by go_num, b3⟩
        case measure => simp [intOf]; omega
    · go_wp2
      go_ret
      exact ⟨rfl, hb⟩
theorem fG_pos (l : List UInt8) (h : (fG l).2.2 = 0) : 1 ≤ (fG l).2.1 ∧ (fG l).2.1 ≤ l.length ∧ (fG l).1.length ≤ l.length := by
  obtain ⟨r, hr, hm, hl⟩ := fG_only l h
  have h1 := frm_len' (fG l).1
  have h2 := congrArg List.length hr
  rw [List.length_append] at h2
  omega
/-- The frames that bytes begin with, and how many bytes they are. -/
def scF : Nat → List UInt8 → List (List UInt8) × Nat
  | 0, _ => ([], 0)
  | f + 1, l => if (fG l).2.2 ≠ 0 then ([], 0) else ((fG l).1 :: (scF f (l.drop (fG l).2.1)).1, (fG l).2.1 + (scF f (l.drop (fG l).2.1)).2)
theorem scF_fuel : ∀ (f f' : Nat) (l : List UInt8), l.length < f → l.length < f' → scF f l = scF f' l := by
  intro f
  induction f with
  | zero => intro f' l h; omega
  | succ f ih =>
    intro f' l h h'
    obtain ⟨g, rfl⟩ : ∃ g, f' = g + 1 := ⟨f' - 1, by omega⟩
    unfold scF
    by_cases h0 : (fG l).2.2 = 0
    · rw [if_neg (by simp [h0]), if_neg (by simp [h0])]
      have hp := fG_pos l h0
      have hd : (l.drop (fG l).2.1).length < f ∧ (l.drop (fG l).2.1).length < g := by rw [List.length_drop]; omega
      rw [ih g _ hd.1 hd.2]
    · rw [if_pos h0, if_pos h0]
def sc (l : List UInt8) : List (List UInt8) × Nat := scF (l.length + 1) l
theorem sc_no (l : List UInt8) (h : (fG l).2.2 ≠ 0) : sc l = ([], 0) := by
  unfold sc scF
  rw [if_pos h]
theorem sc_yes (l : List UInt8) (h : (fG l).2.2 = 0) : sc l = ((fG l).1 :: (sc (l.drop (fG l).2.1)).1, (fG l).2.1 + (sc (l.drop (fG l).2.1)).2) := by
  have hp := fG_pos l h
  unfold sc
  conv => lhs; unfold scF
  rw [if_neg (by simp [h]), scF_fuel l.length ((l.drop (fG l).2.1).length + 1) _ (by rw [List.length_drop]; omega) (by omega)]
/-- Rows of the call's own: each in a block of its own bytes. -/
def OwB (w : World) (base : Nat) (u : Value) (l : List UInt8) : Prop := ∃ A c, u = .slice A l.length c ∧ Own w base 5 1 A l.length c (bv l)
def OwBs (w : World) (base : Nat) (us : List Value) (L : List (List UInt8)) : Prop := us.length = L.length ∧ ∀ (i : Nat) (u : Value) (l : List UInt8), us[i]? = some u → L[i]? = some l → OwB w base u l
theorem OwBs.rd {w : World} {base : Nat} {us : List Value} {L : List (List UInt8)} (h : OwBs w base us L) : RdBs w us L :=
  ⟨h.1, fun i u l hu hl => by obtain ⟨A, c, rfl, o⟩ := h.2 i u l hu hl; exact ⟨A, c, rfl, o.rd⟩⟩
theorem OwBs.below {w w' : World} {base : Nat} {us : List Value} {L : List (List UInt8)} (h : OwBs w base us L) (hb : Below w.heap.size w w') : OwBs w' base us L :=
  ⟨h.1, fun i u l hu hl => by obtain ⟨A, c, rfl, o⟩ := h.2 i u l hu hl; exact ⟨A, c, rfl, o.below hb (Nat.le_refl _)⟩⟩
theorem OwBs.nil_ (w : World) (base : Nat) : OwBs w base [] [] := ⟨rfl, fun i u l h => by simp at h⟩
theorem OwBs.snoc {w : World} {base : Nat} {us : List Value} {L : List (List UInt8)} (h : OwBs w base us L) {u : Value} {l : List UInt8} (hu : OwB w base u l) : OwBs w base (us ++ [u]) (L ++ [l]) := by
  refine ⟨by simp [h.1], fun i x y hx hy => ?_⟩
  by_cases hi : i < us.length
  · rw [List.getElem?_append_left hi] at hx
    rw [List.getElem?_append_left (by rw [← h.1]; exact hi)] at hy
    exact h.2 i x y hx hy
  · rw [List.getElem?_append_right (by omega)] at hx
    rw [List.getElem?_append_right (by rw [← h.1]; omega), ← h.1] at hy
    by_cases h0 : i - us.length = 0
    · rw [h0] at hx hy
      simp at hx hy
      subst hx hy
      exact hu
    · rw [List.getElem?_eq_none (by simp; omega)] at hx
      cases hx
/-- Two slices of the call's own of different types lie in different blocks. -/
theorem Own.apart {w : World} {base base' size size' n n' c c' : Nat} {e e' : TypeId} {A A' : Option Addr} {xs xs' : List Value} (h : Own w base e size A n c xs) (h' : Own w base' e' size' A' n' c' xs') (hne : e ≠ e') : ∀ k, bl A = some k → bl A' ≠ some k := by
  intro k hk hk'
  rcases h.1.2 with ⟨hv, _⟩ | ⟨g, cap, cur, hv, _, hg, _⟩
  · injection hv with hA; subst hA; cases hk
  · injection hv with hA
    subst hA
    rcases h'.1.2 with ⟨hv', _⟩ | ⟨g', cap', cur', hv', _, hg', _⟩
    · injection hv' with hA; subst hA; cases hk'
    · injection hv' with hA
      subst hA
      simp [bl] at hk hk'
      subst hk hk'
      rw [hg] at hg'
      injection hg' with hg'
      injection hg' with _ ht
      exact hne ht
theorem OwBs.grown {w w' : World} {base base' size n c : Nat} {e : TypeId} {A : Option Addr} {xs : List Value} {us : List Value} {L : List (List UInt8)} (h : OwBs w base us L) (ho : Own w base' e size A n c xs) (hne : e ≠ 5) (hg : w.grownBy w' (bl A)) : OwBs w' base us L :=
  ⟨h.1, fun i u l hu hl => by
    obtain ⟨B, d, rfl, o⟩ := h.2 i u l hu hl
    exact ⟨B, d, rfl, o.ch (grown_ch hg) (fun k _ _ hk hs => ho.apart o hne k hs.symm hk)⟩⟩
theorem OwBs.alloc {w : World} {base : Nat} {us : List Value} {L : List (List UInt8)} (h : OwBs w base us L) (ob : Obj) : OwBs (w.alloc ob) base us L :=
  h.below ((Below.refl _ _).alloc (Nat.le_refl _) _)
theorem Try.info_bs : (Try.prog.info? 62).map (fun i => (i.zero, i.size, i.bytes)) = some (some (.slice none 0 0), 1, 24) := by kernel_rfl
theorem info_parts_z {P : Program} {t : TypeId} {z : Value} {s b : Nat} (h : (P.info? t).map (fun i => (i.zero, i.size, i.bytes)) = some (some z, s, b)) : ∃ i, P.info? t = some i ∧ i.zero = some z ∧ i.size = s ∧ i.bytes = b := by
  cases hi : P.info? t with
  | none => rw [hi] at h; cases h
  | some i =>
    rw [hi] at h
    simp at h
    exact ⟨i, rfl, h.1, h.2.1, h.2.2⟩
end Go.Proofs.Ytjlmbdhjpjbneaa
