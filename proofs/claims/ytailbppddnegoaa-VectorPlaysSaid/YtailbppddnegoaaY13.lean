/- Layer 17 (vector): awake, made. -/
import Derived.Test.YtailbppddnegoaaY12
import Derived.Test.YtailbppddnegoaaY7
namespace Go.Proofs.Ytailbppddnegoaa
open Go.RowKit
set_option linter.unusedVariables false
set_option maxRecDepth 100000
attribute [local go_sem ↓] Go.wp_at_zero Go.wp_at_succ

theorem aw17_1 : raisedB [] (0, 1) 3 = true := by decide
theorem aw17_2 : rraise [] (0, 1) 3 = [((0, 1), 3)] := by decide
theorem aw17_3 : takenB [((0, 1), 3)] ((0, 1), 4) = true := by decide
theorem aw17_4 : rtake [((0, 1), 3)] ((0, 1), 4) = [((0, 1), 4)] := by decide
theorem aw17_5 : msum [((0, 1), 4)] = 4 := by decide
set_option maxHeartbeats 1000000 in
theorem awake17_any (w : World) : Calls Try.prog 16 #[] w fun e w' => e = .returned (.bool true) ∧ Below w.heap.size w w' := by
  have CN := Lib.hid (vcnew_any w)
  have C1 := Lib.hid (fun W v b (h : VecIs W v b []) => vcraise_any (0, 1) 3 W v b [] h)
  rw [aw17_1, aw17_2] at C1
  have C2 := Lib.hid (fun W v b (h : VecIs W v b [((0, 1), 3)]) => vctake_any ((0, 1), 4) W v b _ h)
  rw [aw17_3, aw17_4] at C2
  have C3' := Lib.hid (fun W v b (h : VecIs W v b [((0, 1), 4)]) => vcmarks_any W _ _ h.at_)
  have C4 := Lib.hid (fun W v b (h : VecIs W v b [((0, 1), 4)]) => vcsum_any W _ _ h.at_)
  rw [aw17_5] at C4
  generalize hN : w.heap.size = N at *
  unfold acV at C1
  unfold dtV at C2
  simp only at C1 C2
  go_enter Try.func16, Try.ntmps16
  go_wp2_with fail
  refine CN.out.mono ?_; rintro e w1 ⟨rfl, hv1, b1⟩
  have hs1 : N + 1 < w1.heap.size := hv1.ltv
  have hWn := Whole.new w1 25 #[.int .i64 0, .int .i64 1]
  have H1 := Lib.hid (And.intro (hv1.alloc (.cells #[.int .i64 0, .int .i64 1] 25)) (And.intro (b1.alloc (by omega) (.cells #[.int .i64 0, .int .i64 1] 25)) hWn))
  clear hv1 b1 CN
  go_wp2_with fail
  refine (C1.out _ _ _ H1.out.1).mono ?_; rintro e w2 ⟨rfl, hv2, hc2⟩
  have hW2 := H1.out.2.2.ch hc2 (by omega)
  have k0 : w2.cell? ⟨w1.heap.size, 0, none⟩ = some (.int .i64 0) := by rw [hW2.cell]; rfl
  have k1 : w2.cell? ⟨w1.heap.size, 1, none⟩ = some (.int .i64 1) := by rw [hW2.cell]; rfl
  have H2 := Lib.hid (And.intro hv2 (H1.out.2.1.trans (hc2.below (fun k hk e => by have e' : k = N := e; omega) (by simp; omega))))
  clear hv2 hc2 H1 hW2 hWn C1
  go_wp2_with fail
  refine (C2.out _ _ _ H2.out.1).mono ?_; rintro e w3 ⟨rfl, hv3, hc3⟩
  have H3 := Lib.hid (And.intro hv3 (H2.out.2.trans (hc3.below (fun k hk e => by have e' : k = N := e; omega) (by have := H2.out.1.ltv; omega))))
  clear hv3 hc3 H2 C2 k0 k1
  go_wp2_with fail
  refine (C3'.out _ _ _ H3.out.1).mono ?_; rintro e w4 ⟨A, c, rfl, o4, b4⟩
  obtain ⟨g, o, hA, hg, c0, c1, c2⟩ := (Ds.at_ (i := 0) o4.ds (x := ((0, 1), 4)) rfl)
  have H4 := Lib.hid (And.intro (H3.out.1.up b4) (H3.out.2.trans (below_of_le b4 (by have := H3.out.1.ltv; omega))))
  have hl : ([((0, 1), 4)] : List Dt).length = 1 := rfl
  clear o4 b4 H3 C3' c0 c1
  subst hA
  simp only [hl]
  clear hl
  go_wp2_with fail
  refine (C4.out _ _ _ H4.out.1).mono ?_; rintro e w5 ⟨rfl, b5⟩
  have H5 := Lib.hid (H4.out.2.trans (below_of_le b5 (by have := H4.out.1.ltv; omega)))
  clear b5
  go_wp2
  go_ret
  exact ⟨rfl, H5.out⟩
theorem MsAt.ch {S : Nat → Prop} {w w' : World} {A : Option Addr} {L : List Dt} (h : MsAt w A L) (hc : Ch S w w') (hS : ∀ k, bl A = some k → ¬ S k) : MsAt w' A L :=
  Ds.more (show Ds w' w.heap.size A L from Rd.ch h (Nat.le_refl _) hc (fun k _ hk => hS k hk)) hc.size
theorem keep3b {W W' : World} {B b0 p0 p1 p2 : Nat} {x y z : Value} (hb : b0 < B) (b : Below B W W') (h : W.cell? ⟨b0, p0, none⟩ = some x ∧ W.cell? ⟨b0, p1, none⟩ = some y ∧ W.cell? ⟨b0, p2, none⟩ = some z) :
    W'.cell? ⟨b0, p0, none⟩ = some x ∧ W'.cell? ⟨b0, p1, none⟩ = some y ∧ W'.cell? ⟨b0, p2, none⟩ = some z :=
  ⟨(b.cell hb).trans h.1, (b.cell hb).trans h.2.1, (b.cell hb).trans h.2.2⟩
/-- The program's vector and the document's marks. -/
def MadeEnd (w : World) (M : List Dt) (e : Ending) (w' : World) : Prop := ∃ v b A c, e = .returned (.tuple #[.pointer (some ⟨v, 0, none⟩), .slice A M.length c]) ∧ w.heap.size ≤ v ∧ w.heap.size ≤ b ∧ VecIs w' v b M ∧ MsAt w' A M ∧ (∀ k, bl A = some k → w.heap.size ≤ k ∧ k ≠ b) ∧ Below w.heap.size w w'
theorem rjoin_take (M L : List Dt) (j : Nat) (x : Dt) (hx : L[j]? = some x) : rjoin M (L.take (j + 1)) = rraise (rjoin M (L.take j)) x.1 x.2 := by
  rw [List.take_add_one, hx]; exact rjoin_snoc _ _ _
set_option maxHeartbeats 1000000 in
theorem made17_any (w : World) (A : Option Addr) (c : Nat) (L : List Dt) (hr : MsAt w A L) (hn : L.length ≤ 9223372036854775807) :
    Calls Try.prog 32 #[.slice A L.length c] w (MadeEnd w (rmade L)) := by
  have CN := Lib.hid (vcnew_any w)
  have CR := Lib.hid (fun (a : Ac) (n : Int) W v b (M : List Dt) (h : VecIs W v b M) => vcraise_any a n W v b M h)
  have CD := Lib.hid (fun (W : World) (A : Option Addr) (c : Nat) (L : List Dt) (a : Ac) (n : Int) (hr : MsAt W A L) (hv : Vw L) => rraise17_any W A c L a n hr (by have := hv.len; omega))
  have HR := Lib.hid hr
  have hmd : rmade L = rjoin [] (L.take 60) := rfl
  rw [hmd]
  generalize hlen : L.length = n at *
  have HL := Lib.hid hlen
  generalize hN : w.heap.size = N at *
  unfold acV at CR CD
  clear hr hlen hmd
  go_enter Try.func32, Try.ntmps32
  go_wp2_with fail
  refine CN.out.mono ?_; rintro e w1 ⟨rfl, hv1, b1⟩
  have hs1 : N + 1 < w1.heap.size := hv1.ltv
  have hoe := own_eM w1 33 w1.heap.size (Nat.le_refl _)
  have H1 := Lib.hid (And.intro (hv1.alloc (.cells #[] 33)) (And.intro (b1.alloc (by omega) (.cells #[] 33)) (show MsAt (w1.alloc (.cells #[] 33)) (some ⟨w1.heap.size, 0, none⟩) [] from MsAt.own (by simpa [dts] using hoe))))
  clear hv1 b1 CN hoe
  go_wp2_with fail
  generalize hz1 : w1.heap.size = z1 at *
  generalize (w1.alloc (.cells #[] 33)) = W1 at *
  go_loopw [5, 6] (fun y i wr => ∃ (j : Nat) (A1 : Option Addr) (c1 : Nat), j ≤ n ∧ j ≤ 60 ∧ i = .int .i64 j ∧ y = .slice A1 (rjoin [] (L.take j)).length c1 ∧ MsAt wr A1 (rjoin [] (L.take j)) ∧ VecIs wr (N + 1) N (rjoin [] (L.take j)) ∧ (∀ k, bl A1 = some k → N ≤ k ∧ k ≠ N) ∧ Below N w wr) (fun _ i _ => n - (intOf i).toNat)
  case atStart => exact ⟨0, some ⟨z1, 0, none⟩, 0, by omega, by omega, rfl, rfl, H1.out.2.2, H1.out.1, fun k hk => by simp [bl] at hk; omega, H1.out.2.1⟩
  case round =>
    obtain ⟨j, A1, c1, hj, hj6, rfl, rfl, hM, hv, hk1, hb⟩ := hrel
    have HM := Lib.hid (And.intro hM (And.intro hv (And.intro hk1 hb)))
    clear hM hv hk1 hb H1
    by_cases hlt : j < n ∧ j < 60
    · obtain ⟨hlt, hlt6⟩ := hlt
      obtain ⟨x, hx⟩ : ∃ x, L[j]? = some x := ⟨L[j]'(by have := HL.out; omega), List.getElem?_eq_getElem _⟩
      obtain ⟨b0, o0, hA, hb0, k0, k1, k2⟩ := (Ds.below (hN ▸ HR.out : Ds w N A L) HM.out.2.2.2).at_ hx
      have htk := Lib.hid (rjoin_take [] L j x hx)
      have hvw : Vw (rjoin [] (L.take j)) := Vw.nil.join _
      have hrq := Lib.hid (raiseL_eq hvw x.1 x.2)
      have CX := Lib.hid (fun W v b (h : VecIs W v b (rjoin [] (L.take j))) => CR.out x.1 x.2 W v b _ h)
      have CY := Lib.hid (fun W (h : MsAt W A1 (rjoin [] (L.take j))) => CD.out W A1 c1 _ x.1 x.2 h hvw)
      obtain ⟨⟨d, i⟩, s⟩ := x
      simp only at k0 k1 k2
      have HK := Lib.hid (And.intro k0 (And.intro k1 k2))
      have hNr : N < wr.heap.size := HM.out.2.1.ltb
      clear hx k0 k1 k2 hvw
      subst hA
      simp only at CX CY htk hrq
      generalize (rjoin [] (L.take j)) = Lj at *
      generalize hlj : Lj.length = lj at *
      have HLj := Lib.hid hlj
      clear hlj
      go_wp2_with fail
      refine wp_region_held_drew (S := (fun W => W.cell? ⟨b0, o0 + j * 3, none⟩ = some (.int .i64 d) ∧ W.cell? ⟨b0, o0 + j * 3 + 1, none⟩ = some (.int .i64 i) ∧ W.cell? ⟨b0, o0 + j * 3 + 2, none⟩ = some (.int .i64 s))) (by kernel_rfl) ?_ (fun hHeld => ?_)
      · (try dsimp only); exact HK.out
      refine wpAnyH_take (i := 0) (v := ?_) rfl (by kernel_rfl) (by kernel_rfl) (by kernel_rfl) (fun _ _ _ h => h) (Or.inl ⟨by rfl, ?_⟩) (by assumption) ?_
      rotate_left
      · (intro w hSw; (try dsimp only at hSw); go_simp); try with_reducible rfl
      try simp only [Act.put, List.getElem_toArray, List.getElem_cons_zero, List.setIfInBounds_toArray, List.set_cons_zero, List.set_cons_succ]
      refine wpAnyH_take (i := 1) (v := ?_) rfl (by kernel_rfl) (by kernel_rfl) (by kernel_rfl) (fun _ _ _ h => h) (Or.inl ⟨by rfl, ?_⟩) (by assumption) ?_
      rotate_left
      · (intro w hSw; (try dsimp only at hSw); go_simp); try with_reducible rfl
      try simp only [Act.put, List.getElem_toArray, List.getElem_cons_zero, List.getElem_cons_succ, List.setIfInBounds_toArray, List.set_cons_zero, List.set_cons_succ]
      refine wpAnyH_take (i := 2) (v := ?_) rfl (by kernel_rfl) (by kernel_rfl) (by kernel_rfl) (fun _ _ _ h => h) (Or.inl ⟨by rfl, ?_⟩) (by assumption) ?_
      rotate_left
      · (intro w hSw; (try dsimp only at hSw); go_simp); try with_reducible rfl
      try simp only [Act.put, List.getElem_toArray, List.getElem_cons_zero, List.getElem_cons_succ, List.setIfInBounds_toArray, List.set_cons_zero, List.set_cons_succ]
      refine wpAnyH_take (i := 3) (v := ?_) rfl (by kernel_rfl) (by kernel_rfl) (by kernel_rfl) (fun _ _ _ h => h) (Or.inl ⟨by rfl, ?_⟩) (by assumption) ?_
      rotate_left
      · (intro w hSw; (try dsimp only at hSw); go_simp); try with_reducible rfl
      try simp only [Act.put, List.getElem_toArray, List.getElem_cons_zero, List.getElem_cons_succ, List.setIfInBounds_toArray, List.set_cons_zero, List.set_cons_succ]
      refine wpAnyH_take (i := 4) (v := ?_) rfl (by kernel_rfl) (by kernel_rfl) (by kernel_rfl) (fun _ _ _ h => h) (Or.inl ⟨by rfl, ?_⟩) (by assumption) ?_
      rotate_left
      · (intro w hSw; (try dsimp only at hSw); go_simp); try with_reducible rfl
      try simp only [Act.put, List.getElem_toArray, List.getElem_cons_zero, List.getElem_cons_succ, List.setIfInBounds_toArray, List.set_cons_zero, List.set_cons_succ]
      refine wpAnyH_take (i := 5) (v := ?_) rfl (by kernel_rfl) (by kernel_rfl) (by kernel_rfl) (fun _ _ _ h => h) (Or.inl ⟨by rfl, ?_⟩) (by assumption) ?_
      rotate_left
      · (intro w hSw; (try dsimp only at hSw); go_simp); try with_reducible rfl
      try simp only [Act.put, List.getElem_toArray, List.getElem_cons_zero, List.getElem_cons_succ, List.setIfInBounds_toArray, List.set_cons_zero, List.set_cons_succ]
      refine wpAnyH_take (i := 6) (v := ?_) rfl (by kernel_rfl) (by kernel_rfl) (by kernel_rfl) (fun _ _ _ h => h) (Or.inl ⟨by rfl, ?_⟩) (by assumption) ?_
      rotate_left
      · (intro w hSw; (try dsimp only at hSw); go_simp); try with_reducible rfl
      try simp only [Act.put, List.getElem_toArray, List.getElem_cons_zero, List.getElem_cons_succ, List.setIfInBounds_toArray, List.set_cons_zero, List.set_cons_succ]
      refine wpAnyH_take (i := 7) (v := ?_) rfl (by kernel_rfl) (by kernel_rfl) (by kernel_rfl) (fun _ _ _ h => h) (Or.inl ⟨by rfl, ?_⟩) (by assumption) ?_
      rotate_left
      · (intro w hSw; (try dsimp only at hSw); go_simp); try with_reducible rfl
      try simp only [Act.put, List.getElem_toArray, List.getElem_cons_zero, List.getElem_cons_succ, List.setIfInBounds_toArray, List.set_cons_zero, List.set_cons_succ]
      refine wpAnyH_take (i := 8) (v := ?_) rfl (by kernel_rfl) (by kernel_rfl) (by kernel_rfl) (fun _ _ _ h => h) (Or.inl ⟨by rfl, ?_⟩) (by assumption) ?_
      rotate_left
      · (intro w hSw; (try dsimp only at hSw); go_simp); try with_reducible rfl
      try simp only [Act.put, List.getElem_toArray, List.getElem_cons_zero, List.getElem_cons_succ, List.setIfInBounds_toArray, List.set_cons_zero, List.set_cons_succ]
      refine wpAnyH_take (i := 9) (v := ?_) rfl (by kernel_rfl) (by kernel_rfl) (by kernel_rfl) (fun _ _ _ h => h) (Or.inl ⟨by rfl, ?_⟩) (by assumption) ?_
      rotate_left
      · (intro w hSw; (try dsimp only at hSw); go_simp); try with_reducible rfl
      try simp only [Act.put, List.getElem_toArray, List.getElem_cons_zero, List.getElem_cons_succ, List.setIfInBounds_toArray, List.set_cons_zero, List.set_cons_succ]
      refine wpAnyH_take (i := 10) (v := ?_) rfl (by kernel_rfl) (by kernel_rfl) (by kernel_rfl) (fun _ _ _ h => h) (Or.inl ⟨by rfl, ?_⟩) (by assumption) ?_
      rotate_left
      · (intro w hSw; (try dsimp only at hSw); go_simp); try with_reducible rfl
      try simp only [Act.put, List.getElem_toArray, List.getElem_cons_zero, List.getElem_cons_succ, List.setIfInBounds_toArray, List.set_cons_zero, List.set_cons_succ]
      refine wpAnyH_ready (rs := [11]) (by kernel_rfl) (by simp) ?_
      refine AllReadyH.cons rfl (fun K hK => ?_) AllReadyH.nil
      go_simp
      refine (CX.out _ _ _ HM.out.2.1.drew).mono ?_; rintro e w5 ⟨rfl, hv5, hc5⟩
      go_wp2_with fail
      refine hK.out _ _ ?_ (fun hHeld => ?_)
      · (try dsimp only); exact keep3b hb0 (hc5.below (fun k hk e => by have e' : k = N := e; omega) (by show N ≤ wr.heap.size; omega)) hHeld
      clear hK K
      try simp only [Act.put, List.getElem_toArray, List.getElem_cons_zero, List.getElem_cons_succ, List.setIfInBounds_toArray, List.set_cons_zero, List.set_cons_succ]
      refine wpAnyH_done (by kernel_rfl) ?_ _
      have H5 := Lib.hid (And.intro (MsAt.ch (MsAt.up HM.out.1 (Below.drew (Below.refl _ _))) hc5 (fun k hk e => (HM.out.2.2.1 k hk).2 e)) (And.intro hv5 (HM.out.2.2.2.drew.trans (hc5.below (fun k hk e => by have e' : k = N := e; omega) (by show N ≤ wr.heap.size; omega)))))
      have HK5 := Lib.hid hHeld
      have hN5 : N < w5.heap.size := hv5.ltb
      clear hv5 hc5 hHeld
      go_wp2_with fail
      refine wp_region_held_drew (S := (fun W => W.cell? ⟨b0, o0 + j * 3, none⟩ = some (.int .i64 d) ∧ W.cell? ⟨b0, o0 + j * 3 + 1, none⟩ = some (.int .i64 i) ∧ W.cell? ⟨b0, o0 + j * 3 + 2, none⟩ = some (.int .i64 s))) (by kernel_rfl) ?_ (fun hHeld => ?_)
      · (try dsimp only); exact HK5.out
      refine wpAnyH_take (i := 0) (v := ?_) rfl (by kernel_rfl) (by kernel_rfl) (by kernel_rfl) (fun _ _ _ h => h) (Or.inl ⟨by rfl, ?_⟩) (by assumption) ?_
      rotate_left
      · (intro w hSw; (try dsimp only at hSw); go_simp); try with_reducible rfl
      try simp only [Act.put, List.getElem_toArray, List.getElem_cons_zero, List.setIfInBounds_toArray, List.set_cons_zero, List.set_cons_succ]
      refine wpAnyH_take (i := 1) (v := ?_) rfl (by kernel_rfl) (by kernel_rfl) (by kernel_rfl) (fun _ _ _ h => h) (Or.inl ⟨by rfl, ?_⟩) (by assumption) ?_
      rotate_left
      · (intro w hSw; (try dsimp only at hSw); go_simp); try with_reducible rfl
      try simp only [Act.put, List.getElem_toArray, List.getElem_cons_zero, List.getElem_cons_succ, List.setIfInBounds_toArray, List.set_cons_zero, List.set_cons_succ]
      refine wpAnyH_take (i := 2) (v := ?_) rfl (by kernel_rfl) (by kernel_rfl) (by kernel_rfl) (fun _ _ _ h => h) (Or.inl ⟨by rfl, ?_⟩) (by assumption) ?_
      rotate_left
      · (intro w hSw; (try dsimp only at hSw); go_simp); try with_reducible rfl
      try simp only [Act.put, List.getElem_toArray, List.getElem_cons_zero, List.getElem_cons_succ, List.setIfInBounds_toArray, List.set_cons_zero, List.set_cons_succ]
      refine wpAnyH_take (i := 3) (v := ?_) rfl (by kernel_rfl) (by kernel_rfl) (by kernel_rfl) (fun _ _ _ h => h) (Or.inl ⟨by rfl, ?_⟩) (by assumption) ?_
      rotate_left
      · (intro w hSw; (try dsimp only at hSw); go_simp); try with_reducible rfl
      try simp only [Act.put, List.getElem_toArray, List.getElem_cons_zero, List.getElem_cons_succ, List.setIfInBounds_toArray, List.set_cons_zero, List.set_cons_succ]
      refine wpAnyH_take (i := 4) (v := ?_) rfl (by kernel_rfl) (by kernel_rfl) (by kernel_rfl) (fun _ _ _ h => h) (Or.inl ⟨by rfl, ?_⟩) (by assumption) ?_
      rotate_left
      · (intro w hSw; (try dsimp only at hSw); go_simp); try with_reducible rfl
      try simp only [Act.put, List.getElem_toArray, List.getElem_cons_zero, List.getElem_cons_succ, List.setIfInBounds_toArray, List.set_cons_zero, List.set_cons_succ]
      refine wpAnyH_take (i := 5) (v := ?_) rfl (by kernel_rfl) (by kernel_rfl) (by kernel_rfl) (fun _ _ _ h => h) (Or.inl ⟨by rfl, ?_⟩) (by assumption) ?_
      rotate_left
      · (intro w hSw; (try dsimp only at hSw); go_simp); try with_reducible rfl
      try simp only [Act.put, List.getElem_toArray, List.getElem_cons_zero, List.getElem_cons_succ, List.setIfInBounds_toArray, List.set_cons_zero, List.set_cons_succ]
      refine wpAnyH_take (i := 6) (v := ?_) rfl (by kernel_rfl) (by kernel_rfl) (by kernel_rfl) (fun _ _ _ h => h) (Or.inl ⟨by rfl, ?_⟩) (by assumption) ?_
      rotate_left
      · (intro w hSw; (try dsimp only at hSw); go_simp); try with_reducible rfl
      try simp only [Act.put, List.getElem_toArray, List.getElem_cons_zero, List.getElem_cons_succ, List.setIfInBounds_toArray, List.set_cons_zero, List.set_cons_succ]
      refine wpAnyH_take (i := 7) (v := ?_) rfl (by kernel_rfl) (by kernel_rfl) (by kernel_rfl) (fun _ _ _ h => h) (Or.inl ⟨by rfl, ?_⟩) (by assumption) ?_
      rotate_left
      · (intro w hSw; (try dsimp only at hSw); go_simp); try with_reducible rfl
      try simp only [Act.put, List.getElem_toArray, List.getElem_cons_zero, List.getElem_cons_succ, List.setIfInBounds_toArray, List.set_cons_zero, List.set_cons_succ]
      refine wpAnyH_take (i := 8) (v := ?_) rfl (by kernel_rfl) (by kernel_rfl) (by kernel_rfl) (fun _ _ _ h => h) (Or.inl ⟨by rfl, ?_⟩) (by assumption) ?_
      rotate_left
      · (intro w hSw; (try dsimp only at hSw); go_simp); try with_reducible rfl
      try simp only [Act.put, List.getElem_toArray, List.getElem_cons_zero, List.getElem_cons_succ, List.setIfInBounds_toArray, List.set_cons_zero, List.set_cons_succ]
      refine wpAnyH_take (i := 9) (v := ?_) rfl (by kernel_rfl) (by kernel_rfl) (by kernel_rfl) (fun _ _ _ h => h) (Or.inl ⟨by rfl, ?_⟩) (by assumption) ?_
      rotate_left
      · (intro w hSw; (try dsimp only at hSw); go_simp); try with_reducible rfl
      try simp only [Act.put, List.getElem_toArray, List.getElem_cons_zero, List.getElem_cons_succ, List.setIfInBounds_toArray, List.set_cons_zero, List.set_cons_succ]
      refine wpAnyH_take (i := 10) (v := ?_) rfl (by kernel_rfl) (by kernel_rfl) (by kernel_rfl) (fun _ _ _ h => h) (Or.inl ⟨by rfl, ?_⟩) (by assumption) ?_
      rotate_left
      · (intro w hSw; (try dsimp only at hSw); go_simp); try with_reducible rfl
      try simp only [Act.put, List.getElem_toArray, List.getElem_cons_zero, List.getElem_cons_succ, List.setIfInBounds_toArray, List.set_cons_zero, List.set_cons_succ]
      refine wpAnyH_ready (rs := [11]) (by kernel_rfl) (by simp) ?_
      refine AllReadyH.cons rfl (fun K hK => ?_) AllReadyH.nil
      go_simp
      refine (CY.out _ (H5.out.1.up (Below.drew (Below.refl _ _)))).mono ?_; rintro e w6 ⟨A6, c6, rfl, hM6, hk6, b6⟩
      go_wp2_with fail
      refine hK.out _ _ ?_ (fun hHeld => ?_)
      · (try dsimp only); exact keep3b (Nat.lt_of_lt_of_le hb0 (show N ≤ w5.heap.size by omega)) b6 hHeld
      clear hK K
      try simp only [Act.put, List.getElem_toArray, List.getElem_cons_zero, List.getElem_cons_succ, List.setIfInBounds_toArray, List.set_cons_zero, List.set_cons_succ]
      refine wpAnyH_take (i := 12) (v := ?_) rfl (by kernel_rfl) (by kernel_rfl) (by kernel_rfl) (fun _ _ _ h => h) (Or.inl ⟨by rfl, ?_⟩) (by assumption) ?_
      rotate_left
      · (intro w hSw; (try dsimp only at hSw); go_simp); try with_reducible rfl
      try simp only [Act.put, List.getElem_toArray, List.getElem_cons_zero, List.getElem_cons_succ, List.setIfInBounds_toArray, List.set_cons_zero, List.set_cons_succ]
      refine wpAnyH_take (i := 13) (v := ?_) rfl (by kernel_rfl) (by kernel_rfl) (by kernel_rfl) (fun _ _ _ h => h) (Or.inl ⟨by rfl, ?_⟩) (by assumption) ?_
      rotate_left
      · (intro w hSw; (try dsimp only at hSw); go_simp); try with_reducible rfl
      try simp only [Act.put, List.getElem_toArray, List.getElem_cons_zero, List.getElem_cons_succ, List.setIfInBounds_toArray, List.set_cons_zero, List.set_cons_succ]
      refine wpAnyH_take (i := 14) (v := ?_) rfl (by kernel_rfl) (by kernel_rfl) (by kernel_rfl) (fun _ _ _ h => h) (Or.inl ⟨by rfl, ?_⟩) (by assumption) ?_
      rotate_left
      · (intro w hSw; (try dsimp only at hSw); go_simp); try with_reducible rfl
      try simp only [Act.put, List.getElem_toArray, List.getElem_cons_zero, List.getElem_cons_succ, List.setIfInBounds_toArray, List.set_cons_zero, List.set_cons_succ]
      refine wpAnyH_take (i := 15) (v := ?_) rfl (by kernel_rfl) (by kernel_rfl) (by kernel_rfl) (fun _ _ _ h => h) (Or.inl ⟨by rfl, ?_⟩) (by assumption) ?_
      rotate_left
      · (intro w hSw; (try dsimp only at hSw); go_simp); try with_reducible rfl
      try simp only [Act.put, List.getElem_toArray, List.getElem_cons_zero, List.getElem_cons_succ, List.setIfInBounds_toArray, List.set_cons_zero, List.set_cons_succ]
      refine wpAnyH_take (i := 16) (v := ?_) rfl (by kernel_rfl) (by kernel_rfl) (by kernel_rfl) (fun _ _ _ h => h) (Or.inl ⟨by rfl, ?_⟩) (by assumption) ?_
      rotate_left
      · (intro w hSw; (try dsimp only at hSw); go_simp); try with_reducible rfl
      try simp only [Act.put, List.getElem_toArray, List.getElem_cons_zero, List.getElem_cons_succ, List.setIfInBounds_toArray, List.set_cons_zero, List.set_cons_succ]
      refine wpAnyH_done (by kernel_rfl) ?_ _
      have hMr := hM6
      rw [hrq.out] at hMr
      have HF := Lib.hid (And.intro hMr (And.intro (VecIs.up H5.out.2.1.drew b6) (And.intro (show ∀ k, bl A6 = some k → N ≤ k ∧ k ≠ N from fun k hk => by
        rcases hk6 k hk with h | h
        · exact HM.out.2.2.1 k h
        · have h' : w5.heap.size ≤ k := h
          omega) (H5.out.2.2.drew.trans (below_of_le b6 (show N ≤ w5.heap.size by omega))))))
      clear hM6 hk6 b6 hMr
      go_wp2
      go_roundw
      case rel => exact ⟨j + 1, A6, c6, by omega, by omega, by go_num, by rw [htk.out, hrq.out], by rw [htk.out]; exact HF.out.1, by rw [htk.out]; exact HF.out.2.1, HF.out.2.2⟩
      case measure => simp [intOf]; omega
    · have ht := Lib.hid (show L.take j = L.take 60 by
        have := HL.out
        by_cases h : j < n
        · have : j = 60 := by omega
          rw [this]
        · rw [List.take_of_length_le (by omega), List.take_of_length_le (by omega)])
      have HE := Lib.hid (show MadeEnd w (rjoin [] (L.take 60)) (.returned (.tuple #[.pointer (some ⟨N + 1, 0, none⟩), .slice A1 (rjoin [] (L.take j)).length c1])) wr from by
        rw [ht.out]
        have hM := HM.out
        rw [ht.out] at hM
        exact ⟨N + 1, N, A1, c1, rfl, by omega, by omega, hM.2.1, hM.1, by rw [hN]; exact hM.2.2.1, by rw [hN]; exact hM.2.2.2⟩)
      by_cases h1 : j < n
      · have h2 : ¬ j < 60 := by omega
        go_wp2
        go_ret2
        exact HE.out
      · go_wp2
        go_ret2
        exact HE.out
end Go.Proofs.Ytailbppddnegoaa
