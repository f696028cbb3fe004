/- Layer 16 (dot): the walk of the law DotPacks. -/
import Derived.Test.YtjlmbdhjpjbneaaD11
import Derived.Test.YtjlmbdhjpjbneaaO6
import Derived.Deep.DeepCutAuto
import Derived.BigRegion
namespace Go.Proofs.Ytjlmbdhjpjbneaa
open Go.RowKit
set_option linter.unusedVariables false
set_option maxRecDepth 100000

theorem Try.info_dot : (Try.prog.info? 25).map (fun i => (i.zero, i.size, i.bytes)) = some (some (.agg #[.int .i64 0, .int .i64 0, .int .i64 0]), 3, 24) := by kernel_rfl
theorem info_parts_w {P : Program} {t : TypeId} {z : Value} {s b : Nat} (h : (P.info? t).map (fun i => (i.zero, i.size, i.bytes)) = some (some z, s, b)) : ∃ i, P.info? t = some i ∧ i.zero = some z ∧ i.size = s ∧ i.bytes = b := by
  cases hi : P.info? t with
  | none => rw [hi] at h; cases h
  | some i =>
    rw [hi] at h
    simp at h
    exact ⟨i, rfl, h.1, h.2.1, h.2.2⟩
/-- Dots as cells, and packed. -/
def dc (m : Int × Int × Int) : List Value := [.int .i64 m.1, .int .i64 m.2.1, .int .i64 m.2.2]
def dcL (M : List (Int × Int × Int)) : List Value := M.flatMap dc
def dpL (M : List (Int × Int × Int)) : List UInt8 := M.flatMap fun m => dotP m.1 m.2.1 m.2.2
theorem dcL_get : ∀ (M : List (Int × Int × Int)) (i : Nat) (m : Int × Int × Int), M[i]? = some m → (dcL M)[i * 3]? = some (.int .i64 m.1) ∧ (dcL M)[i * 3 + 1]? = some (.int .i64 m.2.1) ∧ (dcL M)[i * 3 + 2]? = some (.int .i64 m.2.2)
  | [], i, m, h => by simp at h
  | m0 :: M, 0, m, h => by
    simp at h
    subst h
    exact ⟨rfl, rfl, rfl⟩
  | m0 :: M, i + 1, m, h => by
    have ih := dcL_get M i m (by simpa using h)
    have e : dcL (m0 :: M) = dc m0 ++ dcL M := rfl
    rw [e]
    have hl : (dc m0).length = 3 := rfl
    refine ⟨?_, ?_, ?_⟩ <;> rw [List.getElem?_append_right (by rw [hl]; omega), hl]
    · rw [show (i + 1) * 3 - 3 = i * 3 by omega]; exact ih.1
    · rw [show (i + 1) * 3 + 1 - 3 = i * 3 + 1 by omega]; exact ih.2.1
    · rw [show (i + 1) * 3 + 2 - 3 = i * 3 + 2 by omega]; exact ih.2.2
theorem dotP_len (d i s : Int) : (dotP d i s).length ≤ 30 := by
  unfold dotP
  split
  · rename_i hh
    simp [dotB, actB] at hh
    have := vput_le (x := d.toNat) (by omega)
    have := vput_le (x := i.toNat) (by omega)
    have := vput_le (x := s.toNat) (by omega)
    simp
    omega
  · simp
theorem dpL_len (M : List (Int × Int × Int)) : (dpL M).length ≤ 30 * M.length := by
  induction M with
  | nil => simp [dpL]
  | cons m M ih =>
    have e : dpL (m :: M) = dotP m.1 m.2.1 m.2.2 ++ dpL M := rfl
    have := dotP_len m.1 m.2.1 m.2.2
    rw [e, List.length_append, List.length_cons]
    omega
theorem dpL_snoc (M : List (Int × Int × Int)) (m : Int × Int × Int) : dpL (M ++ [m]) = dpL M ++ dotP m.1 m.2.1 m.2.2 := by simp [dpL]
theorem dcL_snoc (M : List (Int × Int × Int)) (m : Int × Int × Int) : dcL (M ++ [m]) = dcL M ++ dc m := by simp [dcL]
theorem dpL_drop {M : List (Int × Int × Int)} {i : Nat} {m : Int × Int × Int} (h : M[i]? = some m) : dpL (M.drop i) = dotP m.1 m.2.1 m.2.2 ++ dpL (M.drop (i + 1)) := by
  obtain ⟨hi, he⟩ := List.getElem?_eq_some_iff.1 h
  rw [List.drop_eq_getElem_cons hi, he]
  rfl
theorem rd_freshD (w : World) (x y z : Value) (e : TypeId) : Rd (w.alloc (.cells #[x, y, z] e)) (w.heap.size + 1) 3 (some ⟨w.heap.size, 0, none⟩) 1 [x, y, z] := by
  refine ⟨rfl, fun _ => ⟨w.heap.size, 0, rfl, by omega, fun j u hu => ?_⟩⟩
  rw [cell_of_row _ _ _ #[x, y, z] e (0, 0) (heap_alloc_new w _), Nat.zero_add, ← hu]
  simp
theorem own_e (w : World) (e : TypeId) (size base : Nat) (h : base ≤ w.heap.size) : Own (w.alloc (.cells #[] e)) base e size (some ⟨w.heap.size, 0, none⟩) 0 0 [] :=
  Own.base_le (b' := base) (base := w.heap.size) ⟨World.ownsRow_lit _ #[] 0 (Nat.le_refl _) (by simp [maxLen]) (by simp), Nat.le_refl _, by simp [maxLen]⟩ h
/-- Two slices in different blocks. -/
def Apart (A A' : Option Addr) : Prop := ∀ g, bl A = some g → bl A' ≠ some g
theorem Apart.symm {A A' : Option Addr} (h : Apart A A') : Apart A' A := fun g h1 h2 => h g h2 h1
theorem apart_near {w : World} {base n c size : Nat} {e : TypeId} {A A' A2 : Option Addr} {xs : List Value} (h : Apart A A') (ho : Own w base e size A' n c xs) (hn : ∀ g, bl A2 = some g → bl A = some g ∨ w.heap.size ≤ g) : Apart A2 A' := by
  intro g hg h'
  rcases hn g hg with h1 | h1
  · exact h g h1 h'
  · have := ho.block_lt g (by rw [ownBlock_bl]; exact h')
    omega
theorem near_or {w : World} {A A2 : Option Addr} (h : Near w A A2) : ∀ g, bl A2 = some g → bl A = some g ∨ w.heap.size ≤ g := by
  intro g hg
  rcases h with h | h
  · exact .inl (h ▸ hg)
  · rw [h] at hg
    injection hg with hg
    exact .inr (by omega)
/-- What the first loop has. -/
def Pk (wr : World) (N : Nat) (M : List (Int × Int × Int)) (Aw A4 A5 : Option Addr) (cw c4 c5 : Nat) : Prop :=
  Wr wr N N Aw cw (dpL M) ∧ Own wr (N + 1) 5 1 A4 (dpL M).length c4 (bv (dpL M)) ∧ Own wr (N + 1) 25 3 A5 M.length c5 (dcL M) ∧ Apart Aw A4 ∧ Apart Aw A5 ∧ Apart A4 A5
theorem pk_below {wr w' : World} {N cw c4 c5 : Nat} {M : List (Int × Int × Int)} {Aw A4 A5 : Option Addr} (h : Pk wr N M Aw A4 A5 cw c4 c5) (b : Below wr.heap.size wr w') : Pk w' N M Aw A4 A5 cw c4 c5 :=
  ⟨h.1.below b, h.2.1.below b (Nat.le_refl _), h.2.2.1.below b (Nat.le_refl _), h.2.2.2⟩
theorem pk_lt {wr : World} {N cw c4 c5 : Nat} {M : List (Int × Int × Int)} {Aw A4 A5 : Option Addr} (h : Pk wr N M Aw A4 A5 cw c4 c5) : N < wr.heap.size := h.1.2.1.lt
set_option maxHeartbeats 4000000 in
theorem dotPacks_in (w : World) (A : Option Addr) (n c : Nat) (f : Nat → Nat → Int) (hr : Recs w w.heap.size 3 A n f) (hn : n ≤ 100) :
    Calls Try.prog 8 #[.slice A n c] w fun e w' => e = .returned (.bool true) ∧ Below w.heap.size w w' := by
  obtain ⟨i0, hi, hz0, hz1, hz2⟩ := info_parts Try.info_by
  obtain ⟨j0, ji, jz0, jz1, jz2⟩ := info_parts_w Try.info_dot
  have CP := Lib.hid (fun (d i s : Int) (w : World) (base b : Nat) (A : Option Addr) (c : Nat) (l : List UInt8) h hb hl => dput_any d i s w base b A c l h hb hl)
  have CR := Lib.hid (fun d i s w => rright_any d i s w)
  have CQ := Lib.hid (fun d i s h w => rdput_any d i s h w)
  have C9 := Lib.hid awake16_any
  generalize hN : w.heap.size = N at *
  have e0 : Pk (((w.alloc (.cells #[.slice none 0 0] 64)).alloc (.cells #[] 5)).alloc (.cells #[] 25)) N [] none (some ⟨N + 1, 0, none⟩) (some ⟨N + 2, 0, none⟩) 0 0 0 := by
    have h1 := (wr_new w N (by omega)).below (((Below.refl _ _).alloc (Nat.le_refl _) (.cells #[] 5)).alloc (by simp) (.cells #[] 25))
    have h2 := (own_e (w.alloc (.cells #[.slice none 0 0] 64)) 5 1 (N + 1) (by simp [hN])).alloc (.cells #[] 25)
    have h3 := own_e ((w.alloc (.cells #[.slice none 0 0] 64)).alloc (.cells #[] 5)) 25 3 (N + 1) (by simp [hN])
    have s1 : (w.alloc (.cells #[.slice none 0 0] 64)).heap.size = N + 1 := by simp [hN]
    have s2 : ((w.alloc (.cells #[.slice none 0 0] 64)).alloc (.cells #[] 5)).heap.size = N + 2 := by simp [hN]
    rw [hN] at h1
    rw [s1] at h2
    rw [s2] at h3
    refine ⟨h1, h2, h3, fun g hg => by simp [bl] at hg, fun g hg => by simp [bl] at hg, fun g hg => ?_⟩
    simp [bl] at hg ⊢
    omega
  have b0 : Below N w (((w.alloc (.cells #[.slice none 0 0] 64)).alloc (.cells #[] 5)).alloc (.cells #[] 25)) := (((Below.refl _ _).alloc (by omega) _).alloc (by simp [hN]) _).alloc (by simp [hN]; omega) _
  have E0 := Lib.hid e0
  have B0 := Lib.hid b0
  clear e0 b0
  unfold dotV at CP CR CQ
  go_enter Try.func8, Try.ntmps8
  go_wp2_with fail
  generalize (((w.alloc (.cells #[.slice none 0 0] 64)).alloc (.cells #[] 5)).alloc (.cells #[] 25)) = W0 at *
  go_loopw [4, 5, 6] (fun x y i wr => ∃ (j : Nat) (M : List (Int × Int × Int)) (Aw A4 A5 : Option Addr) (cw c4 c5 : Nat), j ≤ n ∧ i = .int .i64 j ∧ x = .slice A4 (dpL M).length c4 ∧ y = .slice A5 M.length c5 ∧ M.length ≤ j ∧ (∀ m ∈ M, dotB m.1 m.2.1 m.2.2 = true) ∧ Pk wr N M Aw A4 A5 cw c4 c5 ∧ Below N w wr) (fun _ _ i _ => n - (intOf i).toNat)
  case atStart => exact ⟨0, [], none, some ⟨N + 1, 0, none⟩, some ⟨N + 2, 0, none⟩, 0, 0, 0, by omega, rfl, rfl, rfl, by simp, by simp, E0.out, B0.out⟩
  case round =>
    obtain ⟨j, M, Aw, A4, A5, cw, c4, c5, hj, rfl, rfl, rfl, hMj, hM, hPk, hB⟩ := hrel
    clear E0 B0
    have hlM := dpL_len M
    have hNl := pk_lt hPk
    by_cases hlt : j < n
    · obtain ⟨b0, o0, rfl, hb0, hcell⟩ := (hr.below hB) (by omega)
      have s0 : wr.cell? ⟨b0, o0 + j * 3, none⟩ = some (.int .i64 (f j 0)) := hcell j hlt 0 (by omega)
      have s1 : wr.cell? ⟨b0, o0 + j * 3 + 1, none⟩ = some (.int .i64 (f j 1)) := hcell j hlt 1 (by omega)
      have s2 : wr.cell? ⟨b0, o0 + j * 3 + 2, none⟩ = some (.int .i64 (f j 2)) := hcell j hlt 2 (by omega)
      have h0 := hPk
      obtain ⟨hw, ho4, ho5, d1, d2, d3⟩ := h0
      have HB := Lib.hid hB
      have cp := CP.out (f j 0) (f j 1) (f j 2) wr N N Aw cw (dpL M) hw (by omega) (by omega)
      clear hcell hB hPk
      go_wp2_with fail
      refine (cp).mono ?_; rintro e w1 ⟨Aw1, cw1, rfl, hw1, st1⟩
      have o4 := ho4.ch st1.1 (by rintro k hk _ hg (e | e); omega; exact d1 k e hg)
      have o5 := ho5.ch st1.1 (by rintro k hk _ hg (e | e); omega; exact d2 k e hg)
      have d1' : Apart Aw1 A4 := apart_near d1 ho4 st1.2
      have d2' : Apart Aw1 A5 := apart_near d2 ho5 st1.2
      have hAw : ∀ g, bl Aw = some g → N ≤ g := fun g hg => (hw.2.2.block_lt g (by rw [ownBlock_bl]; exact hg)).1
      have bw : Below N wr w1 := st1.1.below (by rintro k hk (e | e); omega; have := hAw k e; omega) (by omega)
      have s0' : w1.cell? ⟨b0, o0 + j * 3, none⟩ = some (.int .i64 (f j 0)) := by rw [bw.cell (by simp only; omega)]; exact s0
      have s1' : w1.cell? ⟨b0, o0 + j * 3 + 1, none⟩ = some (.int .i64 (f j 1)) := by rw [bw.cell (by simp only; omega)]; exact s1
      have s2' : w1.cell? ⟨b0, o0 + j * 3 + 2, none⟩ = some (.int .i64 (f j 2)) := by rw [bw.cell (by simp only; omega)]; exact s2
      have hsz1 := st1.1.size
      have hB1 := Lib.hid (HB.out.trans bw)
      clear cp s0 s1 s2 hw ho4 ho5 d1 d2 st1 hAw bw HB
      go_wp2_with fail
      refine (CR.out _ _ _ _).mono ?_; rintro e w2 ⟨rfl, b2⟩
      have hw2 := hw1.below b2
      have o4 := o4.below b2 (Nat.le_refl _)
      have o5 := o5.below b2 (Nat.le_refl _)
      have t0' : w2.cell? ⟨b0, o0 + j * 3, none⟩ = some (.int .i64 (f j 0)) := by rw [b2.cell (by simp only; omega)]; exact s0'
      have t1' : w2.cell? ⟨b0, o0 + j * 3 + 1, none⟩ = some (.int .i64 (f j 1)) := by rw [b2.cell (by simp only; omega)]; exact s1'
      have t2' : w2.cell? ⟨b0, o0 + j * 3 + 2, none⟩ = some (.int .i64 (f j 2)) := by rw [b2.cell (by simp only; omega)]; exact s2'
      have hsz2 := b2.size
      have hB2 := Lib.hid (hB1.out.trans (below_of_le b2 (by omega)))
      clear s0' s1' s2' hw1 b2 hB1
      cases hq : dotB (f j 0) (f j 1) (f j 2)
      · have hP : dotP (f j 0) (f j 1) (f j 2) = [] := by unfold dotP; rw [hq]; simp
        rw [hP, List.append_nil] at hw2
        go_wp2
        go_roundw
        case rel => exact ⟨j + 1, M, Aw1, A4, A5, cw1, c4, c5, by omega, by go_num, rfl, rfl, by omega, hM, ⟨hw2, o4, o5, d1', d2', d3⟩, hB2.out⟩
        case measure => simp [intOf]; omega
      · have cq := CQ.out (f j 0) (f j 1) (f j 2) hq w2
        have hPl := dotP_len (f j 0) (f j 1) (f j 2)
        go_wp2_with fail
        refine (cq).mono ?_; rintro e w3 ⟨A3, c3, rfl, o3, b3⟩
        have hw3 := Lib.hid (hw2.below b3)
        have o43 := o4.below b3 (Nat.le_refl _)
        have o53 := Lib.hid (o5.below b3 (Nat.le_refl _))
        have hsz3 := b3.size
        have u0' : w3.cell? ⟨b0, o0 + j * 3, none⟩ = some (.int .i64 (f j 0)) := by rw [b3.cell (by simp only; omega)]; exact t0'
        have u1' : w3.cell? ⟨b0, o0 + j * 3 + 1, none⟩ = some (.int .i64 (f j 1)) := by rw [b3.cell (by simp only; omega)]; exact t1'
        have u2' : w3.cell? ⟨b0, o0 + j * 3 + 2, none⟩ = some (.int .i64 (f j 2)) := by rw [b3.cell (by simp only; omega)]; exact t2'
        have hB3 := Lib.hid (hB2.out.trans (below_of_le b3 (by omega)))
        clear cq hw2 o4 o5 b3 hB2 t0' t1' t2'
        go_wp2_with (
          first
          | (at_builtin
             refine wpList_append_rdn (P := Try.prog) w3 (rfl) (.tmp 34) (.tmp 39) 62 rfl (N + 1) 5 i0 (.int .u8 0) 1 1 Try.underlying62 hi hz0 hz1 hz2 rfl (by decide) (by decide) A4 (dpL M).length c4 (bv (dpL M)) rfl o43 w3.heap.size A3 (dotP (f j 0) (f j 1) (f j 2)).length c3 (bv (dotP (f j 0) (f j 1) (f j 2))) rfl o3.rd (bv_oneCell _) (by omega) (by omega) ?_
             intro A6 c6 w6 o6 g6 n6
             rw [← bv_append] at o6
             have hc6 := grown_ch g6
             have hAl : ∀ k, some k = bl A4 → N + 1 ≤ k := fun k hk => (o43.block_lt k (by rw [ownBlock_bl]; exact hk.symm)).1
             have hw6 := hw3.out.ch hc6 (by intro h; have := hAl _ h; omega) (fun g hg h => d1' g hg h.symm)
             have o56 := o53.out.ch hc6 (by intro k _ _ hk h; exact d3 k h.symm hk)
             have e1 : Apart Aw1 A6 := (apart_near d1'.symm hw3.out.2.2 (near_or n6)).symm
             have e3 : Apart A6 A5 := apart_near d3 o53.out (near_or n6)
             have bw6 : Below N w3 w6 := hc6.below (by intro k hk h; have := hAl _ h; omega) (by omega)
             have hsz6 := hc6.size
             have v0 : w6.cell? ⟨b0, o0 + j * 3, none⟩ = some (.int .i64 (f j 0)) := by rw [bw6.cell (by simp only; omega)]; exact u0'
             have v1 : w6.cell? ⟨b0, o0 + j * 3 + 1, none⟩ = some (.int .i64 (f j 1)) := by rw [bw6.cell (by simp only; omega)]; exact u1'
             have v2 : w6.cell? ⟨b0, o0 + j * 3 + 2, none⟩ = some (.int .i64 (f j 2)) := by rw [bw6.cell (by simp only; omega)]; exact u2'
             have hB6 := Lib.hid (hB3.out.trans bw6)
             have hw6' := Lib.hid hw6
             have o6' := Lib.hid o6
             have o56' := Lib.hid o56
             clear hw3 o43 o53 hB3 u0' u1' u2' o3 hw6 o6 o56 bw6 hc6 g6)
          | (at_builtin
             refine wpList_append_rdn (P := Try.prog) _ (rfl) (.tmp 41) (.tmp 46) 76 rfl (N + 1) 25 j0 (.agg #[.int .i64 0, .int .i64 0, .int .i64 0]) 3 24 Try.underlying76 ji jz0 jz1 jz2 rfl (by decide) (by decide) A5 M.length c5 (dcL M) rfl (o56'.out.alloc _) _ _ 1 1 [.int .i64 (f j 0), .int .i64 (f j 1), .int .i64 (f j 2)] rfl (rd_freshD w6 _ _ _ 25) (by intro u hu; simp at hu; rcases hu with rfl | rfl | rfl <;> rfl) (by omega) (by simp; omega) ?_
             intro A9 c9 w9 o9 g9 n9
             have hc9 := (Ch.alloc_ (fun k => some k = bl A5) w6 (.cells #[.int .i64 (f j 0), .int .i64 (f j 1), .int .i64 (f j 2)] 25)).trans (grown_ch g9) (fun k _ h => h)))
        go_roundw
        case rel =>
          have hA5 : ∀ k, some k = bl A5 → N + 1 ≤ k := fun k hk => (o56'.out.block_lt k (by rw [ownBlock_bl]; exact hk.symm)).1
          have hw9 := hw6'.out.ch hc9 (by intro h; have := hA5 _ h; omega) (fun g hg h => d2' g hg h.symm)
          have o69 := o6'.out.ch hc9 (by intro k _ _ hk h; exact e3 k hk h.symm)
          have n9' : ∀ g, bl A9 = some g → bl A5 = some g ∨ w6.heap.size ≤ g := by
            intro g hg
            rcases near_or n9 g hg with h | h
            · exact .inl h
            · exact .inr (by simp at h; omega)
          have f2 : Apart Aw1 A9 := (apart_near d2'.symm hw6'.out.2.2 n9').symm
          have f3 : Apart A6 A9 := (apart_near e3.symm o6'.out n9').symm
          have hB9 : Below N w w9 := hB6.out.trans (hc9.below (by intro k hk h; have := hA5 _ h; omega) (by omega))
          have eL : (dpL M).length + (dotP (f j 0) (f j 1) (f j 2)).length = (dpL (M ++ [(f j 0, f j 1, f j 2)])).length := by rw [dpL_snoc]; simp
          have eM : M.length + 1 = (M ++ [(f j 0, f j 1, f j 2)]).length := by simp
          rw [eL] at o69 ⊢
          rw [eM] at o9 ⊢
          refine ⟨j + 1, M ++ [(f j 0, f j 1, f j 2)], Aw1, A6, A9, cw1, c6, c9, by omega, by go_num, rfl, rfl, by simp; omega, ?_, ⟨by rw [dpL_snoc]; exact hw9, by rw [dpL_snoc] at o69 ⊢; exact o69, by rw [dcL_snoc]; exact o9, e1, f2, f3⟩, hB9⟩
          intro m hm
          rcases List.mem_append.1 hm with h | h
          · exact hM m h
          · simp at h
            subst h
            exact hq
        case measure => simp [intOf]; omega
    · obtain ⟨hw, ho4, ho5, d1, d2, d3⟩ := hPk
      have CB := Lib.hid (wbytes_any wr _ _ _ _ _ hw (by omega))
      have hA5 : ∀ g, bl A5 = some g → g < wr.heap.size := fun g hg => (ho5.block_lt g (by rw [ownBlock_bl]; exact hg)).2
      have HB := Lib.hid hB
      clear hr CP CR CQ hi hz0 hz1 hz2 ji jz0 jz1 jz2 d1 d2 d3 hw hB
      go_wp2_with fail
      refine (CB.out).mono ?_; rintro e w1 ⟨A7, c7, rfl, o7, b7⟩
      have hs7 := b7.size
      have r7 := o7.rd
      have r4 := (ho4.rd.below b7).more hs7
      have o5 := ho5.below b7 (Nat.le_refl _)
      have hc7 := o7.2
      have CS := Lib.hid (same_any (dpL M) A7 A4 (dpL M).length (dpL M).length c7 c4 w1.heap.size w1 (by omega) r7 r4 (Nat.le_refl _))
      have HB1 := Lib.hid (HB.out.trans (below_of_le b7 (by omega)))
      clear CB o7 ho4 ho5 b7 r4 HB
      go_wp2_with fail
      refine (CS.out).mono ?_; rintro e w2 ⟨rfl, b2⟩
      have hs2 := b2.size
      have CD := Lib.hid (read_any w2 A7 (dpL M).length c7 (dpL M) ((r7.below b2).more hs2) hc7.1 hc7.2)
      have o5 := o5.below b2 (Nat.le_refl _)
      have HB2 := Lib.hid (HB1.out.trans (below_of_le b2 (by omega)))
      clear CS r7 b2 HB1
      go_wp2_with fail
      refine (CD.out).mono ?_; rintro e w3 ⟨rfl, hRe, b3⟩
      have o5 := Lib.hid (o5.below b3 (Nat.le_refl _))
      have HB3 := Lib.hid (HB2.out.trans (below_of_le b3 (by omega)))
      have hRe3 := Lib.hid hRe
      have hrp : N < w2.heap.size := by omega
      have hA5' : ∀ g, bl A5 = some g → g < w2.heap.size := fun g hg => by have := hA5 g hg; omega
      clear CD b3 hRe HB2 hA5
      generalize w2.heap.size = rp at *
      go_wp2_with fail
      go_loopw [9] (fun i wr => ∃ (i2 : Nat) (A : Option Addr) (n c : Nat), i2 ≤ M.length ∧ i = .int .i64 i2 ∧ Re wr rp A n c (dpL (M.drop i2)) 0 ∧ Ch (fun k => k = rp) w3 wr) (fun i _ => M.length - (intOf i).toNat)
      case atStart => exact ⟨0, _, _, _, by omega, rfl, hRe3.out, Ch.refl _ _⟩
      case round =>
        obtain ⟨i2, A8, n8, c8, hi2, rfl, hR8, hC8⟩ := hrel
        have o58 := o5.out.ch hC8 (fun k _ _ hk h => by have h' : k = rp := h; have := hA5' k hk; omega)
        by_cases hlt2 : i2 < M.length
        · have hm : M[i2]? = some M[i2] := List.getElem?_eq_getElem hlt2
          have hdm := hM _ (List.getElem_mem hlt2)
          obtain ⟨x1, x2, x3⟩ := dcL_get M i2 _ hm
          rw [dpL_drop hm] at hR8
          generalize M[i2] = m at *
          obtain ⟨d, i, s⟩ := m
          simp only at hR8 hdm x1 x2 x3
          obtain ⟨g5, o5', rfl, hg5, hmc⟩ := o58.rd.2 (by omega)
          have m1 := hmc _ _ x1
          have m2 := hmc _ _ x2
          have m3 := hmc _ _ x3
          rw [← Nat.add_assoc] at m2 m3
          have hg5r : g5 ≠ rp := by have := hA5' g5 rfl; omega
          have CG := Lib.hid (dget_put d i s hdm (dpL (M.drop (i2 + 1))) wr.drew rp A8 n8 c8 hR8)
          have hC8' := Lib.hid hC8
          unfold dotV at CG
          clear hR8 hmc x1 x2 x3 hm hC8 o58
          go_upto_region 20 with (fail)
          go_region_with ((go_at_call 51; refine (CG.out).mono ?_; rintro e w5 ⟨A9, n9, c9, rfl, hR9, hC9⟩; have m1' := (World.cell?_of_block (w := wr.drew) (hC9.block g5 hg5 (fun h => hg5r h)) : w5.cell? ⟨g5, o5' + i2 * 3, none⟩ = _).trans m1; have m2' := (World.cell?_of_block (w := wr.drew) (hC9.block g5 hg5 (fun h => hg5r h)) : w5.cell? ⟨g5, o5' + i2 * 3 + 1, none⟩ = _).trans m2; have m3' := (World.cell?_of_block (w := wr.drew) (hC9.block g5 hg5 (fun h => hg5r h)) : w5.cell? ⟨g5, o5' + i2 * 3 + 2, none⟩ = _).trans m3; have HR9 := Lib.hid hR9; have HC9 := Lib.hid hC9; clear hR9 hC9))
          all_goals
            go_wp2
            go_roundw
            case rel => exact ⟨i2 + 1, A9, n9, c9, by omega, by go_num, HR9.out, hC8'.out.drew.trans HC9.out (fun k _ h => h)⟩
            case measure => simp [intOf]; omega
        · have hRx := hR8
          rw [List.drop_eq_nil_of_le (by omega)] at hRx
          have CE := Lib.hid (rend_any wr rp A8 n8 c8 [] 0 hRx)
          have hB8 := Lib.hid (HB3.out.trans (hC8.below (by intro k hk h; have h' : k = rp := h; omega) (by have := HB3.out.size; omega)))
          clear hR8 hRx hC8 o58
          go_wp2_with fail
          refine (CE.out).mono ?_; rintro e w5 ⟨rfl, rfl⟩
          go_wp2_with fail
          refine (C9.out _).mono ?_; rintro e w6 ⟨rfl, b6⟩
          go_wp2
          go_ret
          exact ⟨rfl, hB8.out.trans (below_of_le b6 (by have := hB8.out.size; omega))⟩
theorem dotPacks_law (w : World) {v : Value} (hv : IsRecs 3 w v) :
    Calls Try.prog 8 #[v] w fun e w' => e = .returned (.bool true) ∧ Below w.heap.size w w' := by
  obtain ⟨A, n, c, f, rfl, hnc, hc, hr, hf⟩ := hv
  have hc : c ≤ 9223372036854775807 := hc
  have C9 := Lib.hid awake16_any
  by_cases hn : n ≤ 100
  · exact dotPacks_in w A n c f hr hn
  · have h1 : 100 < n := by omega
    clear hn hr hf
    go_enter Try.func8, Try.ntmps8
    go_wp2_with fail
    refine (C9.out _).mono ?_; rintro e w2 ⟨rfl, b2⟩
    go_wp2
    go_ret
    exact ⟨rfl, b2⟩
end Go.Proofs.Ytjlmbdhjpjbneaa
