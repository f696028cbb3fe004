/- Layer 36 (peers): Even. -/
import Derived.Test.YtailbppddnegoaaR4
namespace Go.Proofs.Ytailbppddnegoaa
open Go.RowKit Go.Shelf
set_option linter.unusedVariables false
set_option maxRecDepth 100000
attribute [local go_sem] Oper.semAt_some

/-- What the loop of Even has. -/
def EvnI (w : World) (N br bv v b : Nat) (t : Nat) (own : Int) (A : Option Addr) (c : Nat) (Vs : List Vn) (L : List Dt) (s : Nat) (W : World) : Prop :=
  s ≤ Vs.length ∧ evenTo own (tabK Vs) L s = true ∧ Whole W N 62 #[.pointer (some ⟨t, 0, none⟩)] ∧ Whole W br 4 #[.bool false] ∧ Whole W bv 29 #[.pointer (some ⟨v, 0, none⟩)] ∧ VecIs W v b L ∧ TabIs W t own A c Vs ∧ Below N w W
theorem EvnI.up {w W W' : World} {N br bv v b : Nat} {t : Nat} {own : Int} {A : Option Addr} {c : Nat} {Vs : List Vn} {L : List Dt} {s : Nat} (hN : w.heap.size = N) (h : EvnI w N br bv v b t own A c Vs L s W) (bl : Below W.heap.size W W') : EvnI w N br bv v b t own A c Vs L s W' := by
  obtain ⟨hs, he, h0, h1, h2, h3, h4, h5⟩ := h
  exact ⟨hs, he, h0.below bl h0.lt, h1.below bl h1.lt, h2.below bl h2.lt, h3.up bl, h4.up bl, h5.trans (below_of_le bl (hN ▸ h5.size))⟩
theorem EvnI.bides (w : World) (N br bv v b : Nat) (t : Nat) (own : Int) (A : Option Addr) (c : Nat) (Vs : List Vn) (L : List Dt) (B : Nat) (hB : N ≤ B) (hN : w.heap.size = N) : Bides B (EvnI w N br bv v b t own A c Vs L) := by
  refine ⟨fun s W W' h bl => h.up hN bl, ?_⟩
  rintro s W k o o' ⟨hs, he, h0, h1, h2, h3, h4, h5⟩ hBk hk hb
  exact ⟨hs, he, h0.putBook hk hb, h1.putBook hk hb, h2.putBook hk hb, h3.putBook hk hb, h4.putBook hk hb, below_putBook h5 (by omega)⟩
/-- What Even has where a round has left it. -/
def EvnX (w : World) (N br : Nat) (own : Int) (Vs : List Vn) (L : List Dt) (_ : Code) (W : World) : Prop := evenTo own (tabK Vs) L Vs.length = false ∧ Whole W br 4 #[.bool false] ∧ Below N w W
theorem EvnX.bides (w : World) (N br : Nat) (own : Int) (Vs : List Vn) (L : List Dt) (B : Nat) (hB : N ≤ B) (hN : w.heap.size = N) : Bides B (EvnX w N br own Vs L) := by
  refine ⟨?_, ?_⟩
  · rintro s W W' ⟨he, h1, h2⟩ bl
    exact ⟨he, h1.below bl h1.lt, h2.trans (below_of_le bl (hN ▸ h2.size))⟩
  · rintro s W k o o' ⟨he, h1, h2⟩ hBk hk hb
    exact ⟨he, h1.putBook hk hb, below_putBook h2 (by omega)⟩
set_option maxHeartbeats 2000000 in
theorem pteven_yes (w : World) (t : Nat) (own : Int) (A : Option Addr) (c : Nat) (Vs : List Vn) (h : TabIs w t own A c Vs) (Al : Option Addr) (cl : Nat) (L : List Dt) (hr : MsAt w Al L) (hn : L.length ≤ 9223372036854775807) (hc : chkE L = 0) :
    Calls Try.prog 68 #[.pointer (some ⟨t, 0, none⟩), .slice Al L.length cl] w fun e w' => e = .returned (.bool (evenTo own (tabK Vs) L Vs.length)) ∧ Below w.heap.size w w' := by
  have CF := Lib.hid (fun W (hr : MsAt W Al L) => (callsIn_wide (n := 8)).2 ((vcof_any W Al cl L hr hn).mono (fun e w' h => show ∃ v b, e = .returned (.tuple #[.pointer (some ⟨v, 0, none⟩), .int .i64 0]) ∧ W.heap.size ≤ v ∧ W.heap.size ≤ b ∧ VecIs w' v b L ∧ Below W.heap.size W w' from by
    unfold OfEnd at h
    rw [if_pos hc] at h
    exact h)))
  have CM := Lib.hid (fun W p q M O hp hq => vccovers_any W p q M O hp hq)
  have HL := Lib.hid (chkE_vw hc).1
  have HT := Lib.hid h
  have HR := Lib.hid hr
  have hlen := h.len
  have hcap := h.cap
  clear h hr hc
  refine (callsIn_wide (n := 9)).1 ?_
  generalize hN : w.heap.size = N at *
  generalize hnl : L.length = nl at *
  refine callsIn_of_wp_marks Try.func68 rfl trivial ?_ rfl
  simp only [Try.ntmps68, List.size_toArray, List.length_cons, List.length_nil, Nat.reduceAdd, Nat.reduceSub, Array.replicate_succ, Array.replicate_zero, List.push_toArray, List.append_toArray, List.nil_append, List.cons_append]
  have H0 := Lib.hid (show Whole ((w.alloc (.cells #[.pointer (some ⟨t, 0, none⟩)] 62)).alloc (.cells #[.bool false] 4)) N 62 #[.pointer (some ⟨t, 0, none⟩)] ∧ Whole ((w.alloc (.cells #[.pointer (some ⟨t, 0, none⟩)] 62)).alloc (.cells #[.bool false] 4)) (N + 1) 4 #[.bool false] ∧ Below N w ((w.alloc (.cells #[.pointer (some ⟨t, 0, none⟩)] 62)).alloc (.cells #[.bool false] 4)) from by
    refine ⟨?_, ?_, ((Below.refl N w).alloc (by omega) _).alloc (by simp; omega) _⟩
    · have := (Whole.new w 62 #[.pointer (some ⟨t, 0, none⟩)]).alloc (.cells #[.bool false] 4)
      rw [hN] at this
      exact this
    · have := Whole.new (w.alloc (.cells #[.pointer (some ⟨t, 0, none⟩)] 62)) 4 #[.bool false]
      simp only [World.size_alloc] at this
      rw [hN] at this
      exact this)
  gi_wp2
  generalize ((w.alloc (.cells #[.pointer (some ⟨t, 0, none⟩)] 62)).alloc (.cells #[.bool false] 4)) = W0 at *
  refine ⟨trivial, ?_⟩
  refine (CF.out _ (HR.out.up (hN ▸ H0.out.2.2))).mono ?_; rintro e w1 ⟨v, b, rfl, hv, hb, hvec, b1⟩
  have hz0 : N + 1 < W0.heap.size := H0.out.2.1.lt
  have cN1 : w1.cell? ⟨N, 0, none⟩ = some (.pointer (some ⟨t, 0, none⟩)) := by rw [(H0.out.1.below b1 (by omega)).cell]; rfl
  have cN2 : (w1.alloc (.cells #[.pointer (some ⟨v, 0, none⟩)] 29)).cell? ⟨N, 0, none⟩ = some (.pointer (some ⟨t, 0, none⟩)) := (World.cell?_alloc_some _ _ _ (by rw [cN1]; rfl)).trans cN1
  have H1 := Lib.hid (show EvnI w N (N + 1) w1.heap.size v b t own A c Vs L 0 (w1.alloc (.cells #[.pointer (some ⟨v, 0, none⟩)] 29)) from by
    have b2 : Below N w w1 := H0.out.2.2.trans (below_of_le b1 (by omega))
    exact ⟨Nat.zero_le _, rfl, (H0.out.1.below b1 (by omega)).alloc _, (H0.out.2.1.below b1 hz0).alloc _, Whole.new _ _ _, hvec.alloc _, (HT.out.up (hN ▸ b2)).up (below_alloc_book _ _), b2.alloc (hN ▸ b2.size) _⟩)
  have hsz : N < w1.heap.size := by have := b1.size; omega
  clear cN1 hvec b1 H0 CF
  gi_wp2
  generalize hbv : w1.heap.size = bv at *
  have hsz2 : bv < (w1.alloc (.cells #[.pointer (some ⟨v, 0, none⟩)] 29)).heap.size := by simp; omega
  generalize (w1.alloc (.cells #[.pointer (some ⟨v, 0, none⟩)] 29)) = W1 at *
  refine wp_rangeM (gf := 70) (fst := #[.pointer (some ⟨t, 0, none⟩)]) rfl (enters_of Try.func70 (by kernel_rfl) rfl)
    (ptall_iter _ t own A c Vs) (fun _ => rfl) (EvnI w N (N + 1) bv v b t own A c Vs L) (EvnX w N (N + 1) own Vs L) (EvnI.bides w N (N + 1) bv v b t own A c Vs L _ (by omega) hN) (EvnX.bides w N (N + 1) own Vs L _ (by omega) hN) (fun s W h => by obtain ⟨_, _, _, _, _, _, h, _⟩ := h; exact h)
    (fun s s' W hs h => ?skip) H1.out
    (fun x => { tmps := #[.pointer (some ⟨t, 0, none⟩), .slice Al nl cl, .pointer (some ⟨N, 0, none⟩), undef, .pointer (some ⟨N + 1, 0, none⟩), .pointer (some ⟨bv, 0, none⟩), .int .i64 0, .int .i64 x, .tuple #[.pointer (some ⟨v, 0, none⟩), .int .i64 0], .slice Al nl cl, .tuple #[.pointer (some ⟨v, 0, none⟩), .int .i64 0], .pointer (some ⟨v, 0, none⟩), .int .i64 0, .pointer (some ⟨t, 0, none⟩), .bool false, .bool false, .int .i64 0, .bool false, .bool false, .pointer (some ⟨t, 0, none⟩), .func (.func 70) #[.pointer (some ⟨t, 0, none⟩)] #[], .int .i64 x, undef, undef, undef, undef, undef, undef, undef, undef, undef, undef, undef, undef, undef, undef, undef, undef, undef, undef, undef, undef, undef, undef], defers := [] }) ?assign ?body ?done ?stop
  case skip =>
    obtain ⟨h1, h2, rfl⟩ := hs
    obtain ⟨hl, he, h3⟩ := h
    exact ⟨by omega, by rw [evenTo_succ, he, decide_eq_true h2]; rfl, h3⟩
  case assign =>
    intro l x W K hK
    gi_wp2
    exact hK
  case body =>
    rintro l s x s' W ⟨hs, ho, rfl, rfl⟩ hI
    have HI := Lib.hid hI
    obtain ⟨hl, he, h0, h1, h2, h3, h4, h5⟩ := hI
    obtain ⟨x, hx⟩ : ∃ x, Vs[s]? = some x := ⟨Vs[s]'hs, List.getElem?_eq_getElem _⟩
    obtain ⟨b0, o0, hA, hb0, c0, hvx⟩ := h4.at_ hx
    have hg : (tabK Vs)[s]?.getD [] = x.M := tabK_get hx
    have hboth := rcov_both (M := L) (O := x.M) HL.out hvx.2.2
    have cN := h0.cell 0
    have cv := h2.cell 0
    have ct := h4.c1
    change _ = some _ at cN
    change _ = some _ at cv
    have C1 := Lib.hid (CM.out W.drew _ _ _ _ h3.drew.at_ hvx.drew.at_)
    have C2 := Lib.hid (fun w2 (b2 : Below W.heap.size W w2) => CM.out w2 _ _ _ _ (hvx.up b2).at_ (h3.up b2).at_)
    have hbvW : bv < W.heap.size := h2.lt
    have htW : t < W.heap.size := World.block_lt_of_cell? W _ ct
    have hNW : N < W.heap.size := h0.lt
    have HK := Lib.hid (fun w2 (b2 : Below W.heap.size W w2) => And.intro (HI.out.up hN b2) (KeepsB.below b2))
    clear h0 h1 h2 h3 h4 h5 hvx
    subst hA
    generalize hnV : Vs.length = n at *
    have hst : ∀ w2, Below W.heap.size W w2 → ∀ w3, Below w2.heap.size w2 w3 → Below W.heap.size W w3 := fun w2 b2 w3 b3 => b2.trans (below_of_le b3 b2.size)
    have HST := Lib.hid hst
    clear hst
    gi_wp2
    cases h1 : rcov L x.M
    · have HE := Lib.hid (show evenTo own (tabK Vs) L n = false from evenTo_no hs ho (by rw [hg]; rintro rfl; rw [h1, decide_eq_true rfl] at hboth; simp at hboth))
      rw [h1] at C1
      clear h1 hboth hg he
      refine wpIn_region_held_drew (S := (fun W => W.cell? ⟨bv, 0, none⟩ = some (.pointer (some ⟨v, 0, none⟩)) ∧ W.cell? ⟨N, 0, none⟩ = some (.pointer (some ⟨t, 0, none⟩)) ∧ W.cell? ⟨t, 1, none⟩ = some (.slice (some ⟨b0, o0, none⟩) n c) ∧ W.cell? ⟨b0, o0 + s, none⟩ = some (.pointer (some ⟨x.v, 0, none⟩)))) (by kernel_rfl) (by kernel_rfl) (by rintro ⟨_, _, h⟩; exact h) ?_ (fun hHeld => ?_)
      · (try dsimp only); exact ⟨cv, cN, ct, c0⟩
      refine wpAnyH_take (i := 0) (v := ?_) rfl (by kernel_rfl) (by kernel_rfl) (by kernel_rfl) (fun _ _ _ h => h) (Or.inl ⟨by rfl, ?_⟩) (by assumption) ?_
      rotate_left
      first | (focus ((intro w hSw; (try dsimp only at hSw); go_simp); (try with_reducible rfl); done)) | fail
      try simp only [Act.put, List.getElem_toArray, List.getElem_cons_zero, List.setIfInBounds_toArray, List.set_cons_zero, List.set_cons_succ]
      refine wpAnyH_take (i := 1) (v := ?_) rfl (by kernel_rfl) (by kernel_rfl) (by kernel_rfl) (fun _ _ _ h => h) (Or.inl ⟨by rfl, ?_⟩) (by assumption) ?_
      rotate_left
      first | (focus ((intro w hSw; (try dsimp only at hSw); go_simp); (try with_reducible rfl); done)) | fail
      try simp only [Act.put, List.getElem_toArray, List.getElem_cons_zero, List.getElem_cons_succ, List.setIfInBounds_toArray, List.set_cons_zero, List.set_cons_succ]
      refine wpAnyH_take (i := 2) (v := ?_) rfl (by kernel_rfl) (by kernel_rfl) (by kernel_rfl) (fun _ _ _ h => h) (Or.inl ⟨by rfl, ?_⟩) (by assumption) ?_
      rotate_left
      first | (focus ((intro w hSw; (try dsimp only at hSw); go_simp); (try with_reducible rfl); done)) | fail
      try simp only [Act.put, List.getElem_toArray, List.getElem_cons_zero, List.getElem_cons_succ, List.setIfInBounds_toArray, List.set_cons_zero, List.set_cons_succ]
      refine wpAnyH_take (i := 3) (v := ?_) rfl (by kernel_rfl) (by kernel_rfl) (by kernel_rfl) (fun _ _ _ h => h) (Or.inl ⟨by rfl, ?_⟩) (by assumption) ?_
      rotate_left
      first | (focus ((intro w hSw; (try dsimp only at hSw); go_simp); (try with_reducible rfl); done)) | fail
      try simp only [Act.put, List.getElem_toArray, List.getElem_cons_zero, List.getElem_cons_succ, List.setIfInBounds_toArray, List.set_cons_zero, List.set_cons_succ]
      refine wpAnyH_take (i := 4) (v := ?_) rfl (by kernel_rfl) (by kernel_rfl) (by kernel_rfl) (fun _ _ _ h => h) (Or.inl ⟨by rfl, ?_⟩) (by assumption) ?_
      rotate_left
      first | (focus ((intro w hSw; (try dsimp only at hSw); go_simp); (try with_reducible rfl); done)) | fail
      try simp only [Act.put, List.getElem_toArray, List.getElem_cons_zero, List.getElem_cons_succ, List.setIfInBounds_toArray, List.set_cons_zero, List.set_cons_succ]
      refine wpAnyH_take (i := 5) (v := ?_) rfl (by kernel_rfl) (by kernel_rfl) (by kernel_rfl) (fun _ _ _ h => h) (Or.inl ⟨by rfl, ?_⟩) (by assumption) ?_
      rotate_left
      first | (focus ((intro w hSw; (try dsimp only at hSw); go_simp); (try with_reducible rfl); done)) | fail
      try simp only [Act.put, List.getElem_toArray, List.getElem_cons_zero, List.getElem_cons_succ, List.setIfInBounds_toArray, List.set_cons_zero, List.set_cons_succ]
      refine wpAnyH_take (i := 6) (v := ?_) rfl (by kernel_rfl) (by kernel_rfl) (by kernel_rfl) (fun _ _ _ h => h) (Or.inl ⟨by rfl, ?_⟩) (by assumption) ?_
      rotate_left
      first | (focus ((intro w hSw; (try dsimp only at hSw); go_simp); (try with_reducible rfl); done)) | fail
      try simp only [Act.put, List.getElem_toArray, List.getElem_cons_zero, List.getElem_cons_succ, List.setIfInBounds_toArray, List.set_cons_zero, List.set_cons_succ]
      refine wpAnyH_take (i := 7) (v := ?_) rfl (by kernel_rfl) (by kernel_rfl) (by kernel_rfl) (fun _ _ _ h => h) (Or.inl ⟨by rfl, ?_⟩) (by assumption) ?_
      rotate_left
      first | (focus ((intro w hSw; (try dsimp only at hSw); go_simp); (try with_reducible rfl); done)) | fail
      try simp only [Act.put, List.getElem_toArray, List.getElem_cons_zero, List.getElem_cons_succ, List.setIfInBounds_toArray, List.set_cons_zero, List.set_cons_succ]
      refine wpAnyH_ready (rs := [8]) (by kernel_rfl) (by simp) ?_
      refine AllReadyH.cons rfl (fun K hK => ?_) AllReadyH.nil
      go_simp
      refine C1.out.mono ?_; rintro e2 w2 ⟨rfl, b2⟩
      go_wp2_with fail
      refine hK.out _ _ ?_ (fun hHeld => ?_)
      · (try dsimp only); exact ⟨(b2.cell (by show bv < W.heap.size; exact hbvW)).trans hHeld.1, (b2.cell (by show N < W.heap.size; exact hNW)).trans hHeld.2.1, (b2.cell (by show t < W.heap.size; exact htW)).trans hHeld.2.2.1, (b2.cell (by show b0 < W.heap.size; exact hb0)).trans hHeld.2.2.2⟩
      clear hK K
      try simp only [Act.put, List.getElem_toArray, List.getElem_cons_zero, List.getElem_cons_succ, List.setIfInBounds_toArray, List.set_cons_zero, List.set_cons_succ]
      refine wpAnyH_take (i := 9) (v := ?_) rfl (by kernel_rfl) (by kernel_rfl) (by kernel_rfl) (fun _ _ _ h => h) (Or.inl ⟨by rfl, ?_⟩) (by assumption) ?_
      rotate_left
      first | (focus ((intro w hSw; (try dsimp only at hSw); go_simp); (try with_reducible rfl); done)) | fail
      try simp only [Act.put, List.getElem_toArray, List.getElem_cons_zero, List.getElem_cons_succ, List.setIfInBounds_toArray, List.set_cons_zero, List.set_cons_succ]
      refine wpAnyH_take (i := 10) (v := ?_) rfl (by kernel_rfl) (by kernel_rfl) (by kernel_rfl) (fun _ _ _ h => h) (Or.inl ⟨by rfl, ?_⟩) (by assumption) ?_
      rotate_left
      first | (focus ((intro w hSw; (try dsimp only at hSw); go_simp); (try with_reducible rfl); done)) | fail
      try simp only [Act.put, List.getElem_toArray, List.getElem_cons_zero, List.getElem_cons_succ, List.setIfInBounds_toArray, List.set_cons_zero, List.set_cons_succ]
      refine wpAnyH_take (i := 11) (v := undef) rfl (by kernel_rfl) (by kernel_rfl) (by kernel_rfl) (fun _ _ _ h => h) (Or.inr ⟨by rfl, rfl⟩) (by assumption) ?_
      try simp only [Act.put, List.getElem_toArray, List.getElem_cons_zero, List.getElem_cons_succ, List.setIfInBounds_toArray, List.set_cons_zero, List.set_cons_succ]
      refine wpAnyH_take (i := 12) (v := undef) rfl (by kernel_rfl) (by kernel_rfl) (by kernel_rfl) (fun _ _ _ h => h) (Or.inr ⟨by rfl, rfl⟩) (by assumption) ?_
      try simp only [Act.put, List.getElem_toArray, List.getElem_cons_zero, List.getElem_cons_succ, List.setIfInBounds_toArray, List.set_cons_zero, List.set_cons_succ]
      refine wpAnyH_take (i := 13) (v := undef) rfl (by kernel_rfl) (by kernel_rfl) (by kernel_rfl) (fun _ _ _ h => h) (Or.inr ⟨by rfl, rfl⟩) (by assumption) ?_
      try simp only [Act.put, List.getElem_toArray, List.getElem_cons_zero, List.getElem_cons_succ, List.setIfInBounds_toArray, List.set_cons_zero, List.set_cons_succ]
      refine wpAnyH_take (i := 14) (v := undef) rfl (by kernel_rfl) (by kernel_rfl) (by kernel_rfl) (fun _ _ _ h => h) (Or.inr ⟨by rfl, rfl⟩) (by assumption) ?_
      try simp only [Act.put, List.getElem_toArray, List.getElem_cons_zero, List.getElem_cons_succ, List.setIfInBounds_toArray, List.set_cons_zero, List.set_cons_succ]
      refine wpAnyH_take (i := 15) (v := undef) rfl (by kernel_rfl) (by kernel_rfl) (by kernel_rfl) (fun _ _ _ h => h) (Or.inr ⟨by rfl, rfl⟩) (by assumption) ?_
      try simp only [Act.put, List.getElem_toArray, List.getElem_cons_zero, List.getElem_cons_succ, List.setIfInBounds_toArray, List.set_cons_zero, List.set_cons_succ]
      refine wpAnyH_take (i := 16) (v := undef) rfl (by kernel_rfl) (by kernel_rfl) (by kernel_rfl) (fun _ _ _ h => h) (Or.inr ⟨by rfl, rfl⟩) (by assumption) ?_
      try simp only [Act.put, List.getElem_toArray, List.getElem_cons_zero, List.getElem_cons_succ, List.setIfInBounds_toArray, List.set_cons_zero, List.set_cons_succ]
      refine wpAnyH_take (i := 17) (v := undef) rfl (by kernel_rfl) (by kernel_rfl) (by kernel_rfl) (fun _ _ _ h => h) (Or.inr ⟨by rfl, rfl⟩) (by assumption) ?_
      try simp only [Act.put, List.getElem_toArray, List.getElem_cons_zero, List.getElem_cons_succ, List.setIfInBounds_toArray, List.set_cons_zero, List.set_cons_succ]
      refine wpAnyH_take (i := 18) (v := undef) rfl (by kernel_rfl) (by kernel_rfl) (by kernel_rfl) (fun _ _ _ h => h) (Or.inr ⟨by rfl, rfl⟩) (by assumption) ?_
      try simp only [Act.put, List.getElem_toArray, List.getElem_cons_zero, List.getElem_cons_succ, List.setIfInBounds_toArray, List.set_cons_zero, List.set_cons_succ]
      refine wpAnyH_take (i := 19) (v := undef) rfl (by kernel_rfl) (by kernel_rfl) (by kernel_rfl) (fun _ _ _ h => h) (Or.inr ⟨by rfl, rfl⟩) (by assumption) ?_
      try simp only [Act.put, List.getElem_toArray, List.getElem_cons_zero, List.getElem_cons_succ, List.setIfInBounds_toArray, List.set_cons_zero, List.set_cons_succ]
      refine wpAnyH_take (i := 20) (v := undef) rfl (by kernel_rfl) (by kernel_rfl) (by kernel_rfl) (fun _ _ _ h => h) (Or.inr ⟨by rfl, rfl⟩) (by assumption) ?_
      try simp only [Act.put, List.getElem_toArray, List.getElem_cons_zero, List.getElem_cons_succ, List.setIfInBounds_toArray, List.set_cons_zero, List.set_cons_succ]
      refine wpAnyH_take (i := 21) (v := ?_) rfl (by kernel_rfl) (by kernel_rfl) (by kernel_rfl) (fun _ _ _ h => h) (Or.inl ⟨by rfl, ?_⟩) (by assumption) ?_
      rotate_left
      first | (focus ((intro w hSw; (try dsimp only at hSw); go_simp); (try with_reducible rfl); done)) | fail
      try simp only [Act.put, List.getElem_toArray, List.getElem_cons_zero, List.getElem_cons_succ, List.setIfInBounds_toArray, List.set_cons_zero, List.set_cons_succ]
      refine wpAnyH_done (by kernel_rfl) ?_ _
      have hk := HK.out w2 ((Below.drew (Below.refl _ _)).trans b2)
      have hw := hk.1.2.2.2.1
      have cr := hw.cell 0
      change _ = some _ at cr
      have fr := hw.free 0
      have HX := Lib.hid (show EvnX w N (N + 1) own Vs L .ret (w2.setCell ⟨N + 1, 0, none⟩ (.bool false)) ∧ KeepsB W (w2.setCell ⟨N + 1, 0, none⟩ (.bool false)) from
        ⟨⟨by rw [hnV]; exact HE.out, hw.set_ 0 _, hk.1.2.2.2.2.2.2.2.setCell (by simp only; omega) _⟩, hk.2.trans (KeepsB.set_ (p := ⟨N + 1, 0, none⟩) hw _)⟩)
      clear hk hw
      gi_wp2
      exact ⟨HX.out.2, HX.out.1⟩
    · rw [h1] at C1
      rw [h1, Bool.true_and] at hboth
      have HB2 := Lib.hid hboth
      clear h1 hboth
      refine wpIn_region_held_drew (S := (fun W => W.cell? ⟨bv, 0, none⟩ = some (.pointer (some ⟨v, 0, none⟩)) ∧ W.cell? ⟨N, 0, none⟩ = some (.pointer (some ⟨t, 0, none⟩)) ∧ W.cell? ⟨t, 1, none⟩ = some (.slice (some ⟨b0, o0, none⟩) n c) ∧ W.cell? ⟨b0, o0 + s, none⟩ = some (.pointer (some ⟨x.v, 0, none⟩)))) (by kernel_rfl) (by kernel_rfl) (by rintro ⟨_, _, h⟩; exact h) ?_ (fun hHeld => ?_)
      · (try dsimp only); exact ⟨cv, cN, ct, c0⟩
      refine wpAnyH_take (i := 0) (v := ?_) rfl (by kernel_rfl) (by kernel_rfl) (by kernel_rfl) (fun _ _ _ h => h) (Or.inl ⟨by rfl, ?_⟩) (by assumption) ?_
      rotate_left
      first | (focus ((intro w hSw; (try dsimp only at hSw); go_simp); (try with_reducible rfl); done)) | fail
      try simp only [Act.put, List.getElem_toArray, List.getElem_cons_zero, List.setIfInBounds_toArray, List.set_cons_zero, List.set_cons_succ]
      refine wpAnyH_take (i := 1) (v := ?_) rfl (by kernel_rfl) (by kernel_rfl) (by kernel_rfl) (fun _ _ _ h => h) (Or.inl ⟨by rfl, ?_⟩) (by assumption) ?_
      rotate_left
      first | (focus ((intro w hSw; (try dsimp only at hSw); go_simp); (try with_reducible rfl); done)) | fail
      try simp only [Act.put, List.getElem_toArray, List.getElem_cons_zero, List.getElem_cons_succ, List.setIfInBounds_toArray, List.set_cons_zero, List.set_cons_succ]
      refine wpAnyH_take (i := 2) (v := ?_) rfl (by kernel_rfl) (by kernel_rfl) (by kernel_rfl) (fun _ _ _ h => h) (Or.inl ⟨by rfl, ?_⟩) (by assumption) ?_
      rotate_left
      first | (focus ((intro w hSw; (try dsimp only at hSw); go_simp); (try with_reducible rfl); done)) | fail
      try simp only [Act.put, List.getElem_toArray, List.getElem_cons_zero, List.getElem_cons_succ, List.setIfInBounds_toArray, List.set_cons_zero, List.set_cons_succ]
      refine wpAnyH_take (i := 3) (v := ?_) rfl (by kernel_rfl) (by kernel_rfl) (by kernel_rfl) (fun _ _ _ h => h) (Or.inl ⟨by rfl, ?_⟩) (by assumption) ?_
      rotate_left
      first | (focus ((intro w hSw; (try dsimp only at hSw); go_simp); (try with_reducible rfl); done)) | fail
      try simp only [Act.put, List.getElem_toArray, List.getElem_cons_zero, List.getElem_cons_succ, List.setIfInBounds_toArray, List.set_cons_zero, List.set_cons_succ]
      refine wpAnyH_take (i := 4) (v := ?_) rfl (by kernel_rfl) (by kernel_rfl) (by kernel_rfl) (fun _ _ _ h => h) (Or.inl ⟨by rfl, ?_⟩) (by assumption) ?_
      rotate_left
      first | (focus ((intro w hSw; (try dsimp only at hSw); go_simp); (try with_reducible rfl); done)) | fail
      try simp only [Act.put, List.getElem_toArray, List.getElem_cons_zero, List.getElem_cons_succ, List.setIfInBounds_toArray, List.set_cons_zero, List.set_cons_succ]
      refine wpAnyH_take (i := 5) (v := ?_) rfl (by kernel_rfl) (by kernel_rfl) (by kernel_rfl) (fun _ _ _ h => h) (Or.inl ⟨by rfl, ?_⟩) (by assumption) ?_
      rotate_left
      first | (focus ((intro w hSw; (try dsimp only at hSw); go_simp); (try with_reducible rfl); done)) | fail
      try simp only [Act.put, List.getElem_toArray, List.getElem_cons_zero, List.getElem_cons_succ, List.setIfInBounds_toArray, List.set_cons_zero, List.set_cons_succ]
      refine wpAnyH_take (i := 6) (v := ?_) rfl (by kernel_rfl) (by kernel_rfl) (by kernel_rfl) (fun _ _ _ h => h) (Or.inl ⟨by rfl, ?_⟩) (by assumption) ?_
      rotate_left
      first | (focus ((intro w hSw; (try dsimp only at hSw); go_simp); (try with_reducible rfl); done)) | fail
      try simp only [Act.put, List.getElem_toArray, List.getElem_cons_zero, List.getElem_cons_succ, List.setIfInBounds_toArray, List.set_cons_zero, List.set_cons_succ]
      refine wpAnyH_take (i := 7) (v := ?_) rfl (by kernel_rfl) (by kernel_rfl) (by kernel_rfl) (fun _ _ _ h => h) (Or.inl ⟨by rfl, ?_⟩) (by assumption) ?_
      rotate_left
      first | (focus ((intro w hSw; (try dsimp only at hSw); go_simp); (try with_reducible rfl); done)) | fail
      try simp only [Act.put, List.getElem_toArray, List.getElem_cons_zero, List.getElem_cons_succ, List.setIfInBounds_toArray, List.set_cons_zero, List.set_cons_succ]
      refine wpAnyH_ready (rs := [8]) (by kernel_rfl) (by simp) ?_
      refine AllReadyH.cons rfl (fun K hK => ?_) AllReadyH.nil
      go_simp
      refine C1.out.mono ?_; rintro e2 w2 ⟨rfl, b2⟩
      go_wp2_with fail
      refine hK.out _ _ ?_ (fun hHeld => ?_)
      · (try dsimp only); exact ⟨(b2.cell (by show bv < W.heap.size; exact hbvW)).trans hHeld.1, (b2.cell (by show N < W.heap.size; exact hNW)).trans hHeld.2.1, (b2.cell (by show t < W.heap.size; exact htW)).trans hHeld.2.2.1, (b2.cell (by show b0 < W.heap.size; exact hb0)).trans hHeld.2.2.2⟩
      clear hK K
      try simp only [Act.put, List.getElem_toArray, List.getElem_cons_zero, List.getElem_cons_succ, List.setIfInBounds_toArray, List.set_cons_zero, List.set_cons_succ]
      have hb2 : Below W.heap.size W w2 := (Below.drew (Below.refl _ _)).trans b2
      have hs2 := hb2.size
      refine wpAnyH_take (i := 9) (v := ?_) rfl (by kernel_rfl) (by kernel_rfl) (by kernel_rfl) (fun _ _ _ h => h) (Or.inl ⟨by rfl, ?_⟩) (by assumption) ?_
      rotate_left
      first | (focus ((intro w hSw; (try dsimp only at hSw); go_simp); (try with_reducible rfl); done)) | fail
      try simp only [Act.put, List.getElem_toArray, List.getElem_cons_zero, List.getElem_cons_succ, List.setIfInBounds_toArray, List.set_cons_zero, List.set_cons_succ]
      refine wpAnyH_take (i := 10) (v := ?_) rfl (by kernel_rfl) (by kernel_rfl) (by kernel_rfl) (fun _ _ _ h => h) (Or.inl ⟨by rfl, ?_⟩) (by assumption) ?_
      rotate_left
      first | (focus ((intro w hSw; (try dsimp only at hSw); go_simp); (try with_reducible rfl); done)) | fail
      try simp only [Act.put, List.getElem_toArray, List.getElem_cons_zero, List.getElem_cons_succ, List.setIfInBounds_toArray, List.set_cons_zero, List.set_cons_succ]
      refine wpAnyH_take (i := 11) (v := ?_) rfl (by kernel_rfl) (by kernel_rfl) (by kernel_rfl) (fun _ _ _ h => h) (Or.inl ⟨by rfl, ?_⟩) (by assumption) ?_
      rotate_left
      first | (focus ((intro w hSw; (try dsimp only at hSw); go_simp); (try with_reducible rfl); done)) | fail
      try simp only [Act.put, List.getElem_toArray, List.getElem_cons_zero, List.getElem_cons_succ, List.setIfInBounds_toArray, List.set_cons_zero, List.set_cons_succ]
      refine wpAnyH_take (i := 12) (v := ?_) rfl (by kernel_rfl) (by kernel_rfl) (by kernel_rfl) (fun _ _ _ h => h) (Or.inl ⟨by rfl, ?_⟩) (by assumption) ?_
      rotate_left
      first | (focus ((intro w hSw; (try dsimp only at hSw); go_simp); (try with_reducible rfl); done)) | fail
      try simp only [Act.put, List.getElem_toArray, List.getElem_cons_zero, List.getElem_cons_succ, List.setIfInBounds_toArray, List.set_cons_zero, List.set_cons_succ]
      refine wpAnyH_take (i := 13) (v := ?_) rfl (by kernel_rfl) (by kernel_rfl) (by kernel_rfl) (fun _ _ _ h => h) (Or.inl ⟨by rfl, ?_⟩) (by assumption) ?_
      rotate_left
      first | (focus ((intro w hSw; (try dsimp only at hSw); go_simp); (try with_reducible rfl); done)) | fail
      try simp only [Act.put, List.getElem_toArray, List.getElem_cons_zero, List.getElem_cons_succ, List.setIfInBounds_toArray, List.set_cons_zero, List.set_cons_succ]
      refine wpAnyH_take (i := 14) (v := ?_) rfl (by kernel_rfl) (by kernel_rfl) (by kernel_rfl) (fun _ _ _ h => h) (Or.inl ⟨by rfl, ?_⟩) (by assumption) ?_
      rotate_left
      first | (focus ((intro w hSw; (try dsimp only at hSw); go_simp); (try with_reducible rfl); done)) | fail
      try simp only [Act.put, List.getElem_toArray, List.getElem_cons_zero, List.getElem_cons_succ, List.setIfInBounds_toArray, List.set_cons_zero, List.set_cons_succ]
      refine wpAnyH_take (i := 15) (v := ?_) rfl (by kernel_rfl) (by kernel_rfl) (by kernel_rfl) (fun _ _ _ h => h) (Or.inl ⟨by rfl, ?_⟩) (by assumption) ?_
      rotate_left
      first | (focus ((intro w hSw; (try dsimp only at hSw); go_simp); (try with_reducible rfl); done)) | fail
      try simp only [Act.put, List.getElem_toArray, List.getElem_cons_zero, List.getElem_cons_succ, List.setIfInBounds_toArray, List.set_cons_zero, List.set_cons_succ]
      refine wpAnyH_take (i := 16) (v := ?_) rfl (by kernel_rfl) (by kernel_rfl) (by kernel_rfl) (fun _ _ _ h => h) (Or.inl ⟨by rfl, ?_⟩) (by assumption) ?_
      rotate_left
      first | (focus ((intro w hSw; (try dsimp only at hSw); go_simp); (try with_reducible rfl); done)) | fail
      try simp only [Act.put, List.getElem_toArray, List.getElem_cons_zero, List.getElem_cons_succ, List.setIfInBounds_toArray, List.set_cons_zero, List.set_cons_succ]
      refine wpAnyH_take (i := 17) (v := ?_) rfl (by kernel_rfl) (by kernel_rfl) (by kernel_rfl) (fun _ _ _ h => h) (Or.inl ⟨by rfl, ?_⟩) (by assumption) ?_
      rotate_left
      first | (focus ((intro w hSw; (try dsimp only at hSw); go_simp); (try with_reducible rfl); done)) | fail
      try simp only [Act.put, List.getElem_toArray, List.getElem_cons_zero, List.getElem_cons_succ, List.setIfInBounds_toArray, List.set_cons_zero, List.set_cons_succ]
      refine wpAnyH_take (i := 18) (v := ?_) rfl (by kernel_rfl) (by kernel_rfl) (by kernel_rfl) (fun _ _ _ h => h) (Or.inl ⟨by rfl, ?_⟩) (by assumption) ?_
      rotate_left
      first | (focus ((intro w hSw; (try dsimp only at hSw); go_simp); (try with_reducible rfl); done)) | fail
      try simp only [Act.put, List.getElem_toArray, List.getElem_cons_zero, List.getElem_cons_succ, List.setIfInBounds_toArray, List.set_cons_zero, List.set_cons_succ]
      refine wpAnyH_ready (rs := [19]) (by kernel_rfl) (by simp) ?_
      refine AllReadyH.cons rfl (fun K hK => ?_) AllReadyH.nil
      go_simp
      refine (C2.out w2 hb2).mono ?_; rintro e3 w3 ⟨rfl, b3⟩
      go_wp2_with fail
      refine hK.out _ _ ?_ (fun hHeld => ?_)
      · (try dsimp only); exact ⟨(b3.cell (by show bv < w2.heap.size; omega)).trans hHeld.1, (b3.cell (by show N < w2.heap.size; omega)).trans hHeld.2.1, (b3.cell (by show t < w2.heap.size; omega)).trans hHeld.2.2.1, (b3.cell (by show b0 < w2.heap.size; omega)).trans hHeld.2.2.2⟩
      clear hK K
      try simp only [Act.put, List.getElem_toArray, List.getElem_cons_zero, List.getElem_cons_succ, List.setIfInBounds_toArray, List.set_cons_zero, List.set_cons_succ]
      refine wpAnyH_take (i := 20) (v := ?_) rfl (by kernel_rfl) (by kernel_rfl) (by kernel_rfl) (fun _ _ _ h => h) (Or.inl ⟨by rfl, ?_⟩) (by assumption) ?_
      rotate_left
      first | (focus ((intro w hSw; (try dsimp only at hSw); go_simp); (try with_reducible rfl); done)) | fail
      try simp only [Act.put, List.getElem_toArray, List.getElem_cons_zero, List.getElem_cons_succ, List.setIfInBounds_toArray, List.set_cons_zero, List.set_cons_succ]
      refine wpAnyH_take (i := 21) (v := ?_) rfl (by kernel_rfl) (by kernel_rfl) (by kernel_rfl) (fun _ _ _ h => h) (Or.inl ⟨by rfl, ?_⟩) (by assumption) ?_
      rotate_left
      first | (focus ((intro w hSw; (try dsimp only at hSw); go_simp); (try with_reducible rfl); done)) | fail
      try simp only [Act.put, List.getElem_toArray, List.getElem_cons_zero, List.getElem_cons_succ, List.setIfInBounds_toArray, List.set_cons_zero, List.set_cons_succ]
      refine wpAnyH_done (by kernel_rfl) ?_ _
      have hk := HK.out w3 (HST.out _ hb2 _ b3)
      have hboth := HB2.out
      cases h2 : rcov x.M L
      · have HE := Lib.hid (show evenTo own (tabK Vs) L n = false from evenTo_no hs ho (by rw [hg]; rintro rfl; rw [h2, decide_eq_true rfl] at hboth; cases hboth))
        have hw := hk.1.2.2.2.1
        have cr := hw.cell 0
        change _ = some _ at cr
        have fr := hw.free 0
        have HX := Lib.hid (show EvnX w N (N + 1) own Vs L .ret (w3.setCell ⟨N + 1, 0, none⟩ (.bool false)) ∧ KeepsB W (w3.setCell ⟨N + 1, 0, none⟩ (.bool false)) from
          ⟨⟨by rw [hnV]; exact HE.out, hw.set_ 0 _, hk.1.2.2.2.2.2.2.2.setCell (by simp only; omega) _⟩, hk.2.trans (KeepsB.set_ (p := ⟨N + 1, 0, none⟩) hw _)⟩)
        clear hk hw hg he hboth h2
        gi_wp2
        exact ⟨HX.out.2, HX.out.1⟩
      · have HX := Lib.hid (show EvnI w N (N + 1) bv v b t own (some ⟨b0, o0, none⟩) c Vs L (s + 1) w3 ∧ KeepsB W w3 from by
          rw [h2] at hboth
          refine ⟨⟨by rw [hnV]; omega, ?_, hk.1.2.2⟩, hk.2⟩
          rw [evenTo_succ, he, hg, decide_eq_true (of_decide_eq_true hboth.symm).symm]
          simp)
        clear hk hg he hboth h2
        gi_wp2
        exact ⟨HX.out.2, HX.out.1⟩
  case done =>
    rintro D s W hD rfl ⟨hl, he, h0, h1, h2, h3, h4, h5⟩ hK
    have cr : W.cell? ⟨N + 1, 0, none⟩ = some (.bool false) := by rw [h1.cell]; rfl
    have fr := h1.free 0
    have hw := h1.set_ 0 (.bool true)
    have hK2 : (W.setCell ⟨N + 1, 0, none⟩ (.bool true)).heap[D]? = some (.deferred (some [])) := (Below.heap_setCell _ _ _ _ (fun e => by
      subst e
      unfold Whole at h1
      rw [hK] at h1
      cases h1)).trans hK
    have HF := Lib.hid (And.intro he (And.intro hw (And.intro hK2 (h5.setCell (p := ⟨N + 1, 0, none⟩) (by simp only; omega) (.bool true)))))
    have cr2 := hw.cell 0
    change _ = some (Value.bool true) at cr2
    clear hw h0 h1 h2 h3 h4 h5 hK2 he
    gi_wp2
    refine ⟨by simp, .inl ⟨_, _, rfl, run_takeDeferred HF.out.2.2.1, ?_⟩⟩
    have cr3 := putObj_cell (o' := .deferred none) HF.out.2.2.1 rfl cr2
    refine ⟨.bool true, by simp [results, Try.results68, go_sem, cr3], by rw [HF.out.1], below_putBook HF.out.2.2.2 (by omega)⟩
  case stop =>
    rintro D W hD ⟨he, h1, h2⟩ hK
    have cr : W.cell? ⟨N + 1, 0, none⟩ = some (.bool false) := by rw [h1.cell]; rfl
    gi_wp2
    refine ⟨by simp, .inl ⟨_, _, rfl, run_takeDeferred hK, ?_⟩⟩
    have cr3 := putObj_cell (o' := .deferred none) hK rfl cr
    refine ⟨.bool false, by simp [results, Try.results68, go_sem, cr3], by rw [he], below_putBook h2 (by omega)⟩
end Go.Proofs.Ytailbppddnegoaa
