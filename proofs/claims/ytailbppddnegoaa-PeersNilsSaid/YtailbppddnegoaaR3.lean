/- Layer 36 (peers): New, Known, Heard. -/
import Derived.Test.YtailbppddnegoaaR2
namespace Go.Proofs.Ytailbppddnegoaa
open Go.RowKit Go.Shelf
set_option linter.unusedVariables false
set_option maxRecDepth 100000
attribute [local go_sem ↓] Go.wp_at_zero Go.wp_at_succ

theorem VecIs.nocell {w : World} {v b o : Nat} {M : List Dt} (h : VecIs w v b M) : w.cell? ⟨b, o, none⟩ = none := by
  obtain ⟨es, clock, hb, _⟩ := h.2.1.1
  simp [World.cell?, hb]
theorem VecIs.cell_ne {w : World} {v b o p : Nat} {M : List Dt} {u : Value} (h : VecIs w v b M) (hc : w.cell? ⟨p, o, none⟩ = some u) : p ≠ b := by
  rintro rfl
  rw [h.nocell] at hc
  cases hc
theorem map_set_same {α β : Type} (f : α → β) (l : List α) (i : Nat) {x y : α} (hx : l[i]? = some x) (he : f y = f x) : (l.set i y).map f = l.map f := by
  apply List.ext_getElem?
  intro j
  rw [List.getElem?_map, List.getElem?_set, List.getElem?_map]
  by_cases e : i = j
  · subst e
    have := (List.getElem?_eq_some_iff.1 hx).1
    rw [if_pos rfl, if_pos this, hx]
    simp [he]
  · rw [if_neg e]
theorem nodup_at {α : Type} {l : List α} (h : l.Nodup) {i j : Nat} {x : α} (hi : l[i]? = some x) (hj : l[j]? = some x) : i = j := by
  obtain ⟨h1, e1⟩ := List.getElem?_eq_some_iff.1 hi
  obtain ⟨h2, e2⟩ := List.getElem?_eq_some_iff.1 hj
  rw [List.nodup_iff_pairwise_ne, List.pairwise_iff_getElem] at h
  rcases Nat.lt_trichotomy i j with hlt | heq | hgt
  · exact absurd (e1.trans e2.symm) (h i j h1 h2 hlt)
  · exact heq
  · exact absurd (e2.trans e1.symm) (h j i h2 h1 hgt)
/-- One of a table's vectors, changed. -/
theorem TabIs.join {w w' : World} {t c : Nat} {own : Int} {A : Option Addr} {Vs : List Vn} (h : TabIs w t own A c Vs) {i : Nat} {x : Vn} (hx : Vs[i]? = some x) {M' : List Dt} (hv : VecIs w' x.v x.b M') (hc : Ch (fun k => k = x.b) w w') :
    TabIs w' t own A c (Vs.set i ⟨x.v, x.b, M'⟩) := by
  obtain ⟨b0, o0, hA, hb0, c0, hvx⟩ := h.at_ hx
  have hl : (Vs.set i ⟨x.v, x.b, M'⟩).length = Vs.length := by simp
  have hp : (Vs.set i ⟨x.v, x.b, M'⟩).map pV = Vs.map pV := map_set_same pV Vs i hx rfl
  have hbs : (Vs.set i ⟨x.v, x.b, M'⟩).map (·.b) = Vs.map (·.b) := map_set_same (y := ⟨x.v, x.b, M'⟩) (·.b) Vs i hx rfl
  refine ⟨by rw [hl]; exact h.blk.ch hc (hvx.cell_ne h.c0), ?_, fun y hy => ?_, by rw [hbs]; exact h.nd, by rw [hl]; exact h.len, by rw [hl]; exact h.cap⟩
  · rw [hl, hp]
    refine (Rd.ch h.rd (Nat.le_refl _) hc fun k _ hk => ?_).more hc.size
    subst hA
    cases hk
    exact hvx.cell_ne c0
  · obtain ⟨j, hj, hjy⟩ := List.mem_iff_getElem.1 hy
    have hy' : (Vs.set i ⟨x.v, x.b, M'⟩)[j]? = some y := by rw [List.getElem?_eq_getElem hj, hjy]
    rw [List.getElem?_set] at hy'
    by_cases e : i = j
    · subst e
      rw [if_pos rfl, if_pos (List.getElem?_eq_some_iff.1 hx).1] at hy'
      cases hy'
      exact hv
    · rw [if_neg e] at hy'
      have hvy := h.vec y (List.mem_of_getElem? hy')
      refine hvy.ch hc (hvx.cell_ne hvy.cell) fun hyb => e ?_
      exact nodup_at h.nd (x := x.b) (by rw [List.getElem?_map, hx]; rfl) (by rw [List.getElem?_map, hy']; exact congrArg some hyb)
theorem tabK_set (Vs : List Vn) (i : Nat) (y : Vn) : tabK (Vs.set i y) = (tabK Vs).set i y.M := by
  unfold tabK
  rw [List.map_set]
theorem tabK_get {Vs : List Vn} {i : Nat} {x : Vn} (hx : Vs[i]? = some x) : (tabK Vs)[i]?.getD [] = x.M := by
  unfold tabK
  rw [List.getElem?_map, hx]
  rfl
theorem info_pv : (Try.prog.info? 29).map (fun i => (i.zero, i.size, i.bytes)) = some (some (.pointer none), 1, 8) := by kernel_rfl
/-- 'append' of one pointer, laid in a block of its own ahead of it. -/
theorem appV (w : World) (base : Nat) (A : Option Addr) (n c : Nat) (xs : List Value) (hown : Own w base 29 1 A n c xs) (p : Option Addr) (hlen : n ≤ 3000000000) (hbase : base ≤ w.heap.size) :
    ∃ A2 c2 w', (Builtin.append_ #[134, 134] 134 #[.slice A n c, .slice (some ⟨w.heap.size, 0, none⟩) 1 1]).run Try.prog (w.alloc (.cells #[.pointer p] 29)) = .ok (.slice A2 (n + 1) c2) w' ∧
      Own w' base 29 1 A2 (n + 1) c2 (xs ++ [.pointer p]) ∧ (w.alloc (.cells #[.pointer p] 29)).grownBy w' (bl A) ∧ Below base w w' := by
  obtain ⟨i0, hi, hz0, hz1, hz2⟩ := info_parts info_pv
  have hr : Rd (w.alloc (.cells #[.pointer p] 29)) (w.heap.size + 1) 1 (some ⟨w.heap.size, 0, none⟩) 1 [.pointer p] := Rd.fresh w #[.pointer p] 29 1 rfl
  obtain ⟨A2, c2, w', h1, h2, h3, _⟩ := run_append_rdn (P := Try.prog) (w.alloc (.cells #[.pointer p] 29)) 134 134 base 29 i0 (.pointer none) 1 8 Try.underlying134 hi hz0 hz1 hz2 rfl (by decide) (by decide) A n c xs (hown.alloc _) (w.heap.size + 1) _ 1 1 [.pointer p] hr (by simp [Value.oneCell']) (by omega) (by simp; omega)
  refine ⟨A2, c2, w', h1, h2, h3, ((Below.refl base w).alloc hbase _).grown h3 (by simp; omega) fun k hk => ?_⟩
  exact (hown.block_lt k (by rw [ownBlock_bl]; exact hk)).1
theorem ptnew_no (w : World) (n own : Int) (h : (1 ≤ n ∧ n ≤ 64 ∧ 0 ≤ own ∧ own < n) = False) :
    Calls Try.prog 50 #[.int .i64 n, .int .i64 own] w fun e w' => e = .returned (.tuple #[.pointer none, .int .i64 4]) ∧ Below w.heap.size w w' := by
  have B0 := Lib.hid (Below.refl w.heap.size w)
  have h' : ¬ (1 ≤ n ∧ n ≤ 64 ∧ 0 ≤ own ∧ own < n) := by rw [h]; exact id
  clear h
  by_cases h1 : n < 1
  · clear h'
    go_enter Try.func50, Try.ntmps50
    go_wp2
    go_ret2
    exact ⟨rfl, B0.out⟩
  by_cases h2 : 64 < n
  · clear h'
    go_enter Try.func50, Try.ntmps50
    go_wp2
    go_ret2
    exact ⟨rfl, B0.out⟩
  by_cases h3 : own < 0
  · clear h'
    go_enter Try.func50, Try.ntmps50
    go_wp2
    go_ret2
    exact ⟨rfl, B0.out⟩
  have h4 : n ≤ own := by omega
  clear h'
  go_enter Try.func50, Try.ntmps50
  go_wp2
  go_ret2
  exact ⟨rfl, B0.out⟩
/-- A table in the making. -/
structure Mk (w wr : World) (N t : Nat) (own : Int) (A : Option Addr) (c j : Nat) (Vs : List Vn) : Prop where
  blk : Whole wr t 136 #[.int .i64 own, .slice A j c]
  row : Own wr N 29 1 A j c (Vs.map pV)
  vec : ∀ x ∈ Vs, VecIs wr x.v x.b x.M ∧ x.M = []
  nd : (Vs.map (·.b)).Nodup
  lo : ∀ x ∈ Vs, N ≤ x.b ∧ x.b < wr.heap.size
  len : Vs.length = j
  lt : N ≤ t
  bel : Below N w wr
theorem ptnew_ok (w : World) (n : Nat) (own : Int) (h1 : 1 ≤ n) (h64 : n ≤ 64) (h0 : 0 ≤ own) (hlt : own < (n : Int)) :
    Calls Try.prog 50 #[.int .i64 (n : Int), .int .i64 own] w fun e w' => ∃ t A c Vs, e = .returned (.tuple #[.pointer (some ⟨t, 0, none⟩), .int .i64 0]) ∧ w.heap.size ≤ t ∧ TabIs w' t own A c Vs ∧ tabK Vs = List.replicate n [] ∧ (∀ x ∈ Vs, w.heap.size ≤ x.b) ∧ Below w.heap.size w w' := by
  have CN := Lib.hid (fun w => vcnew_any w)
  have H0 := Lib.hid (show Mk w (w.alloc (.cells #[.int .i64 own, .slice none 0 0] 136)) w.heap.size w.heap.size own none 0 0 [] from
    ⟨Whole.new _ _ _, Own.nil_, by simp, by simp, by simp, rfl, Nat.le_refl _, (Below.refl _ _).alloc (Nat.le_refl _) _⟩)
  have g1 : ¬ (n : Int) < 1 := by omega
  have g2 : ¬ 64 < (n : Int) := by omega
  have g3 : ¬ own < 0 := by omega
  have g4 : ¬ (n : Int) ≤ own := by omega
  have GB := Lib.hid (And.intro h1 (And.intro h64 (And.intro h0 hlt)))
  generalize hN : w.heap.size = N at *
  clear h1 h64 h0 hlt
  go_enter Try.func50, Try.ntmps50
  go_wp2_with fail
  generalize (w.alloc (.cells #[.int .i64 own, .slice none 0 0] 136)) = W0 at *
  go_loopw [26] (fun p wr => ∃ (j : Nat) (A : Option Addr) (c : Nat) (Vs : List Vn), j ≤ n ∧ p = .int .i64 j ∧ Mk w wr N N own A c j Vs) (fun p _ => n - (intOf p).toNat)
  case atStart => exact ⟨0, none, 0, [], by omega, rfl, H0.out⟩
  case round =>
    obtain ⟨j, A, c, Vs, hj, rfl, hM⟩ := hrel
    have HM := Lib.hid hM
    clear hM H0
    by_cases hlt : j < n
    · have c1 : wr.cell? ⟨N, 1, none⟩ = some (.slice A j c) := by rw [HM.out.blk.cell]; rfl
      have hNt : N < wr.heap.size := HM.out.blk.lt
      have hj64 := GB.out.2.1
      go_wp2_with fail
      refine wp_region_held_drew (S := (fun _ => True)) (by kernel_rfl) ?_ (fun hHeld => ?_)
      · (try dsimp only); skip
      refine wpAnyH_take (i := 0) (v := ?_) rfl (by kernel_rfl) (by kernel_rfl) (by kernel_rfl) (fun _ _ _ h => h) (Or.inl ⟨by rfl, ?_⟩) (by assumption) ?_
      rotate_left
      first | (focus ((intro w hSw; (try dsimp only at hSw); go_simp); (try with_reducible rfl); done)) | fail
      try simp only [Act.put, List.getElem_toArray, List.getElem_cons_zero, List.setIfInBounds_toArray, List.set_cons_zero, List.set_cons_succ]
      refine wpAnyH_take (i := 1) (v := ?_) rfl (by kernel_rfl) (by kernel_rfl) (by kernel_rfl) (fun _ _ _ h => h) (Or.inl ⟨by rfl, ?_⟩) (by assumption) ?_
      rotate_left
      first | (focus ((intro w hSw; (try dsimp only at hSw); go_simp); (try with_reducible rfl); done)) | fail
      try simp only [Act.put, List.getElem_toArray, List.getElem_cons_zero, List.getElem_cons_succ, List.setIfInBounds_toArray, List.set_cons_zero, List.set_cons_succ]
      refine wpAnyH_take (i := 2) (v := ?_) rfl (by kernel_rfl) (by kernel_rfl) (by kernel_rfl) (fun _ _ _ h => h) (Or.inl ⟨by rfl, ?_⟩) (by assumption) ?_
      rotate_left
      first | (focus ((intro w hSw; (try dsimp only at hSw); go_simp); (try with_reducible rfl); done)) | fail
      try simp only [Act.put, List.getElem_toArray, List.getElem_cons_zero, List.getElem_cons_succ, List.setIfInBounds_toArray, List.set_cons_zero, List.set_cons_succ]
      refine wpAnyH_take (i := 3) (v := ?_) rfl (by kernel_rfl) (by kernel_rfl) (by kernel_rfl) (fun _ _ _ h => h) (Or.inl ⟨by rfl, ?_⟩) (by assumption) ?_
      rotate_left
      first | (focus ((intro w hSw; (try dsimp only at hSw); go_simp); (try with_reducible rfl); done)) | fail
      try simp only [Act.put, List.getElem_toArray, List.getElem_cons_zero, List.getElem_cons_succ, List.setIfInBounds_toArray, List.set_cons_zero, List.set_cons_succ]
      refine wpAnyH_ready (rs := [4, 5]) (by kernel_rfl) (by simp) ?_
      refine AllReadyH.cons rfl (fun K hK => ?_) (AllReadyH.cons rfl (fun K hK => ?_) AllReadyH.nil)
      go_simp
      refine hK.out _ _ ?_ (fun hHeld => ?_)
      · (try dsimp only); skip
      clear hK K
      try simp only [Act.put, List.getElem_toArray, List.getElem_cons_zero, List.getElem_cons_succ, List.setIfInBounds_toArray, List.set_cons_zero, List.set_cons_succ]
      refine wpAnyH_ready (rs := [5]) (by kernel_rfl) (by simp) ?_
      refine AllReadyH.cons rfl (fun K hK => ?_) AllReadyH.nil
      go_simp
      refine (CN.out _).mono ?_; rintro e w5 ⟨rfl, hv5, b5⟩
      go_wp2_with fail
      refine hK.out _ _ ?_ (fun hHeld => ?_)
      · (try dsimp only); skip
      clear hK K
      try simp only [Act.put, List.getElem_toArray, List.getElem_cons_zero, List.getElem_cons_succ, List.setIfInBounds_toArray, List.set_cons_zero, List.set_cons_succ]
      refine wpAnyH_ready (rs := [6]) (by kernel_rfl) (by simp) ?_
      refine AllReadyH.cons rfl (fun K hK => ?_) AllReadyH.nil
      go_simp
      refine hK.out _ _ ?_ (fun hHeld => ?_)
      · (try dsimp only); skip
      clear hK K
      try simp only [Act.put, List.getElem_toArray, List.getElem_cons_zero, List.getElem_cons_succ, List.setIfInBounds_toArray, List.set_cons_zero, List.set_cons_succ]
      rotate_left
      go_simp
      refine (CN.out _).mono ?_; rintro e w5 ⟨rfl, hv5, b5⟩
      go_wp2_with fail
      refine hK.out _ _ ?_ (fun hHeld => ?_)
      · (try dsimp only); skip
      clear hK K
      try simp only [Act.put, List.getElem_toArray, List.getElem_cons_zero, List.getElem_cons_succ, List.setIfInBounds_toArray, List.set_cons_zero, List.set_cons_succ]
      have c15 : w5.cell? ⟨N, 1, none⟩ = some (.slice A j c) := (b5.cell (by show N < wr.heap.size; exact hNt)).trans c1
      refine wpAnyH_ready (rs := [4, 6]) (by kernel_rfl) (by simp) ?_
      refine AllReadyH.cons rfl (fun K hK => ?_) (AllReadyH.cons rfl (fun K hK => ?_) AllReadyH.nil)
      go_simp
      refine hK.out _ _ ?_ (fun hHeld => ?_)
      · (try dsimp only); skip
      clear hK K
      try simp only [Act.put, List.getElem_toArray, List.getElem_cons_zero, List.getElem_cons_succ, List.setIfInBounds_toArray, List.set_cons_zero, List.set_cons_succ]
      refine wpAnyH_ready (rs := [6]) (by kernel_rfl) (by simp) ?_
      refine AllReadyH.cons rfl (fun K hK => ?_) AllReadyH.nil
      go_simp
      refine hK.out _ _ ?_ (fun hHeld => ?_)
      · (try dsimp only); skip
      clear hK K
      try simp only [Act.put, List.getElem_toArray, List.getElem_cons_zero, List.getElem_cons_succ, List.setIfInBounds_toArray, List.set_cons_zero, List.set_cons_succ]
      rotate_left
      have c16 := (World.cell?_alloc_some w5 ⟨N, 1, none⟩ (.cells #[.pointer (some ⟨wr.heap.size + 1, 0, none⟩)] 29) (by rw [c15]; rfl)).trans c15
      go_simp
      refine hK.out _ _ ?_ (fun hHeld => ?_)
      · (try dsimp only); skip
      clear hK K
      try simp only [Act.put, List.getElem_toArray, List.getElem_cons_zero, List.getElem_cons_succ, List.setIfInBounds_toArray, List.set_cons_zero, List.set_cons_succ]
      refine wpAnyH_ready (rs := [4]) (by kernel_rfl) (by simp) ?_
      refine AllReadyH.cons rfl (fun K hK => ?_) AllReadyH.nil
      go_simp
      refine hK.out _ _ ?_ (fun hHeld => ?_)
      · (try dsimp only); skip
      clear hK K
      try simp only [Act.put, List.getElem_toArray, List.getElem_cons_zero, List.getElem_cons_succ, List.setIfInBounds_toArray, List.set_cons_zero, List.set_cons_succ]
      all_goals
        have hs5 : wr.heap.size ≤ w5.heap.size := b5.size
        have H5 := Lib.hid (show Mk w w5 N N own A c j Vs ∧ VecIs w5 (wr.heap.size + 1) wr.heap.size [] from ⟨⟨HM.out.blk.drew.below b5 hNt, HM.out.row.drew.below b5 (Nat.le_refl _), fun x hx => ⟨((HM.out.vec x hx).1.drew).below b5 ((HM.out.vec x hx).1.ltv) ((HM.out.vec x hx).1.ltb), (HM.out.vec x hx).2⟩, HM.out.nd, fun x hx => ⟨(HM.out.lo x hx).1, by have := (HM.out.lo x hx).2; omega⟩, HM.out.len, HM.out.lt, HM.out.bel.drew.trans (below_of_le b5 (by show N ≤ wr.heap.size; omega))⟩, hv5⟩)
        obtain ⟨A6, c6, w6, q6, o6, gr6, b6⟩ := appV w5 N A j c (Vs.map pV) H5.out.1.row (some ⟨wr.heap.size + 1, 0, none⟩) (by omega) (by omega)
        have hbA : ∀ k, bl A = some k → k ≠ N := fun k hk e => by
          subst e
          exact (H5.out.1.row.ne_ H5.out.1.blk (by decide)) (by rw [ownBlock_bl]; exact hk)
        have H7 := Lib.hid (show Whole w6 N 136 #[.int .i64 own, .slice A j c] from ((H5.out.1.blk.alloc _).grown gr6 (fun e => hbA N e rfl)))
        have c7 : w6.cell? ⟨N, 1, none⟩ = some (.slice A j c) := by rw [H7.out.cell]; rfl
        have f7 : w6.frozen? ⟨N, 1, none⟩ = false := H7.out.free 1
        have HB6 := Lib.hid (And.intro o6 (And.intro gr6 b6))
        have hA6 : bl A6 ≠ some N := fun e => (o6.ne_ H7.out (by decide)) (by rw [ownBlock_bl]; exact e)
        clear o6 gr6 b6
        refine wpAnyH_ready (rs := [7]) (by kernel_rfl) (by simp) ?_
        refine AllReadyH.cons rfl (fun K hK => ?_) AllReadyH.nil
        refine step_append_run (by rfl) (.tmp 32) (.tmp 34) _ _ (by rfl) _ _ (by rfl) (by rfl) _ _ q6 ?_
        refine hK.out _ _ ?_ (fun hHeld => ?_)
        · (try dsimp only); skip
        clear hK K
        try simp only [Act.put, List.getElem_toArray, List.getElem_cons_zero, List.getElem_cons_succ, List.setIfInBounds_toArray, List.set_cons_zero, List.set_cons_succ]
        refine wpAnyH_take (i := 8) (v := ?_) rfl (by kernel_rfl) (by kernel_rfl) (by kernel_rfl) (fun _ _ _ h => h) (Or.inl ⟨by rfl, ?_⟩) (by assumption) ?_
        rotate_left
        first | (focus ((intro w hSw; (try dsimp only at hSw); go_simp); (try with_reducible rfl); done)) | fail
        try simp only [Act.put, List.getElem_toArray, List.getElem_cons_zero, List.getElem_cons_succ, List.setIfInBounds_toArray, List.set_cons_zero, List.set_cons_succ]
        refine wpAnyH_take (i := 9) (v := ?_) rfl (by kernel_rfl) (by kernel_rfl) (by kernel_rfl) (fun _ _ _ h => h) (Or.inl ⟨by rfl, ?_⟩) (by assumption) ?_
        rotate_left
        first | (focus ((intro w hSw; (try dsimp only at hSw); go_simp); (try with_reducible rfl); done)) | fail
        try simp only [Act.put, List.getElem_toArray, List.getElem_cons_zero, List.getElem_cons_succ, List.setIfInBounds_toArray, List.set_cons_zero, List.set_cons_succ]
        refine wpAnyH_ready (rs := [10]) (by kernel_rfl) (by simp) ?_
        refine AllReadyH.cons rfl (fun K hK => ?_) AllReadyH.nil
        go_simp
        refine hK.out _ _ ?_ (fun hHeld => ?_)
        · (try dsimp only); skip
        clear hK K
        try simp only [Act.put, List.getElem_toArray, List.getElem_cons_zero, List.getElem_cons_succ, List.setIfInBounds_toArray, List.set_cons_zero, List.set_cons_succ]
        refine wpAnyH_done (by kernel_rfl) ?_ _
        have H8 := Lib.hid (show Mk w (w6.setCell ⟨N, 1, none⟩ (.slice A6 (j + 1) c6)) N N own A6 c6 (j + 1) (Vs ++ [⟨wr.heap.size + 1, wr.heap.size, []⟩]) from by
          have hb := HB6.out.2.2
          have hsz : w5.heap.size ≤ w6.heap.size := by have := HB6.out.2.1.size; simp at this; omega
          have hvec : ∀ {v b M}, VecIs w5 v b M → VecIs (w6.setCell ⟨N, 1, none⟩ (.slice A6 (j + 1) c6)) v b M := fun {v b M} hv => by
            have hne : ∀ k, k < w5.heap.size → some k ≠ bl A → k ≠ N → (w6.setCell ⟨N, 1, none⟩ (.slice A6 (j + 1) c6)).heap[k]? = w5.heap[k]? := fun k hk hka hkN =>
              (Below.heap_setCell w6 ⟨N, 1, none⟩ _ k hkN).trans ((HB6.out.2.1.block k (by simp; omega) hka).trans (Below.heap_alloc _ _ _ hk))
            refine hv.block (hne v hv.ltv (fun e => ?_) (fun e => ?_)) (hne b hv.ltb (fun e => ?_) (fun e => ?_))
            · exact (H5.out.1.row.ne_ hv.1 (by decide)) (by rw [ownBlock_bl]; exact e.symm)
            · subst e
              exact absurd rfl (hv.1.ne_ H5.out.1.blk (by decide))
            · obtain ⟨cs, t', fz, hcs⟩ : ∃ cs t' fz, w5.heap[b]? = some (.cells cs t' fz) := by
                rcases H5.out.1.row.1.2 with ⟨hh, _⟩ | ⟨gb, cap, cur, hh, _, hgb, _⟩
                · cases hh
                  cases e
                · cases hh
                  cases e
                  exact ⟨_, _, _, hgb⟩
              obtain ⟨es, clock, hb', _⟩ := hv.2.1.1
              rw [hcs] at hb'
              cases hb'
            · subst e
              exact hv.cell_ne (p := b) (o := 0) (by rw [H5.out.1.blk.cell]; rfl) rfl
          refine ⟨H7.out.set_ 1 _, ?_, ?_, ?_, ?_, ?_, Nat.le_refl _, (H5.out.1.bel.trans hb).setCell (Nat.le_refl _) _⟩
          · have := HB6.out.1.far (p := ⟨N, 1, none⟩) (by rw [ownBlock_bl]; exact hA6) (.slice A6 (j + 1) c6)
            simpa [List.map_append, pV] using this
          · intro x hx
            rcases List.mem_append.1 hx with hx | hx
            · exact ⟨hvec (H5.out.1.vec x hx).1, (H5.out.1.vec x hx).2⟩
            · simp at hx
              subst hx
              exact ⟨hvec H5.out.2, rfl⟩
          · rw [List.map_append, List.nodup_append]
            refine ⟨H5.out.1.nd, by simp, ?_⟩
            intro a ha b hb' e
            simp at hb'
            obtain ⟨x, hx, rfl⟩ := List.mem_map.1 ha
            have := (HM.out.lo x hx).2
            omega
          · intro x hx
            rcases List.mem_append.1 hx with hx | hx
            · exact ⟨(HM.out.lo x hx).1, by have := (HM.out.lo x hx).2; simp; omega⟩
            · simp at hx
              subst hx
              exact ⟨by simp only; omega, by have := H5.out.2.ltb; simp; omega⟩
          · rw [List.length_append, HM.out.len]
            rfl)
        go_wp2
        go_roundw
        case rel => exact ⟨j + 1, A6, c6, _, by omega, by go_num, H8.out⟩
        case measure => simp [intOf]; omega
    · have hj' : j = n := by omega
      subst hj'
      have HF := Lib.hid (show ∃ t A c Vs, (Ending.returned (.tuple #[.pointer (some ⟨N, 0, none⟩), .int .i64 0]) = .returned (.tuple #[.pointer (some ⟨t, 0, none⟩), .int .i64 0])) ∧ N ≤ t ∧ TabIs wr t own A c Vs ∧ tabK Vs = List.replicate j [] ∧ (∀ x ∈ Vs, N ≤ x.b) ∧ Below N w wr from by
        have hl := HM.out.len
        refine ⟨N, A, c, Vs, rfl, Nat.le_refl _, ⟨by rw [hl]; exact HM.out.blk, by rw [hl]; exact HM.out.row.rd, fun x hx => (HM.out.vec x hx).1, HM.out.nd, by have := GB.out.2.1; omega, by rw [hl]; exact HM.out.row.2.1⟩, ?_, fun x hx => (HM.out.lo x hx).1, HM.out.bel⟩
        refine List.eq_replicate_iff.2 ⟨by rw [tabK_len, hl], fun M hM => ?_⟩
        obtain ⟨x, hx, rfl⟩ := List.mem_map.1 hM
        exact (HM.out.vec x hx).2)
      go_wp2
      go_ret2
      exact HF.out
theorem othB_iff {own : Int} {n : Nat} {d : Int} : othB own n d = true ↔ 0 ≤ d ∧ d < (n : Int) ∧ d ≠ own := by
  unfold othB
  rw [Bool.and_eq_true, Bool.and_eq_true, decide_eq_true_eq, decide_eq_true_eq, decide_eq_true_eq]
  exact ⟨fun h => ⟨h.1.1, h.1.2, h.2⟩, fun h => ⟨⟨h.1, h.2.1⟩, h.2.2⟩⟩
/-- Some marks, whosever. -/
def SomeMs (w : World) (L : List Dt) (e : Ending) (w' : World) : Prop := ∃ A c, e = .returned (.slice A L.length c) ∧ MsAt w' A L ∧ Below w.heap.size w w'
theorem MsAt.nil (w : World) : MsAt w none [] := ⟨by simp [dts], fun h => absurd h (by simp)⟩
theorem ptknown_any (w : World) (t : Nat) (own : Int) (A : Option Addr) (c : Nat) (Vs : List Vn) (d : Int) (h : TabIs w t own A c Vs) :
    Calls Try.prog 53 #[.pointer (some ⟨t, 0, none⟩), .int .i64 d] w (SomeMs w (knownL own (tabK Vs) d)) := by
  have CO := Lib.hid (ptother_any w t own A c Vs d h)
  by_cases ho : othB own Vs.length d = true
  · have hk : knownL own (tabK Vs) d = (tabK Vs)[d.toNat]?.getD [] := by unfold knownL; rw [tabK_len, if_pos ho]
    obtain ⟨h0, h1, h2⟩ := othB_iff.1 ho
    obtain ⟨i, rfl⟩ := Int.eq_ofNat_of_zero_le h0
    have hi : i < Vs.length := by omega
    obtain ⟨x, hx⟩ : ∃ x, Vs[i]? = some x := ⟨Vs[i]'hi, List.getElem?_eq_getElem _⟩
    rw [Int.toNat_natCast, tabK_get hx] at hk
    rw [hk]
    rw [ho] at CO
    have CM := Lib.hid (fun W (h : VecIs W x.v x.b x.M) => vcmarks_any W _ x.M h.at_)
    have HT := Lib.hid h
    have HX := Lib.hid hx
    generalize hn : Vs.length = n at *
    clear h hk ho h0 h1 h2 hx
    generalize hN : w.heap.size = N at *
    go_enter Try.func53, Try.ntmps53
    go_wp2_with fail
    refine CO.out.mono ?_; rintro e w1 ⟨rfl, b1⟩
    have h1 := HT.out.up (by rw [hN]; exact b1)
    obtain ⟨b0, o0, hA, hb0, c0, hv⟩ := h1.at_ HX.out
    have c1 := h1.c1
    rw [hn] at c1
    have HV := Lib.hid hv
    have hcap := h1.cap
    clear h1 hv
    subst hA
    go_wp2_with fail
    refine (CM.out _ HV.out).mono ?_; rintro e w2 ⟨A2, c2, rfl, o2, b2⟩
    go_wp2
    go_ret
    exact ⟨A2, c2, rfl, MsAt.own o2, hN.symm ▸ (b1.trans (below_of_le b2 (by have := b1.size; omega)))⟩
  · have hk : knownL own (tabK Vs) d = [] := by unfold knownL; rw [tabK_len, if_neg ho]
    rw [hk]
    rw [Bool.not_eq_true] at ho
    rw [ho] at CO
    clear h hk ho
    generalize hN : w.heap.size = N at *
    go_enter Try.func53, Try.ntmps53
    go_wp2_with fail
    refine CO.out.mono ?_; rintro e w1 ⟨rfl, b1⟩
    go_wp2
    go_ret
    exact ⟨none, 0, rfl, MsAt.nil _, hN.symm ▸ b1⟩
theorem ptknown_nil (w : World) (d : Int) :
    Calls Try.prog 53 #[.pointer none, .int .i64 d] w (SomeMs w []) := by
  have CO := Lib.hid (ptother_nil w d)
  generalize hN : w.heap.size = N at *
  go_enter Try.func53, Try.ntmps53
  go_wp2_with fail
  refine CO.out.mono ?_; rintro e w1 ⟨rfl, b1⟩
  go_wp2
  go_ret
  exact ⟨none, 0, rfl, MsAt.nil _, hN.symm ▸ b1⟩
/-- What hearing leaves. -/
def HeardEnd (w : World) (t : Nat) (own : Int) (A : Option Addr) (c : Nat) (Vs : List Vn) (d : Int) (L : List Dt) (e : Ending) (w' : World) : Prop :=
  ∃ Vs', e = .returned (.int .i64 (heardE own Vs.length d (chkE L))) ∧ TabIs w' t own A c Vs' ∧ tabK Vs' = heardK own (tabK Vs) d L (chkE L) ∧ Vs'.map (·.b) = Vs.map (·.b) ∧ Ch (fun k => k ∈ Vs.map (·.b)) w w'
theorem ptheard_any (w : World) (t : Nat) (own : Int) (A : Option Addr) (c : Nat) (Vs : List Vn) (d : Int) (Al : Option Addr) (cl : Nat) (L : List Dt) (h : TabIs w t own A c Vs) (hr : MsAt w Al L) (hn : L.length ≤ 9223372036854775807) :
    Calls Try.prog 51 #[.pointer (some ⟨t, 0, none⟩), .int .i64 d, .slice Al L.length cl] w (HeardEnd w t own A c Vs d L) := by
  have CO := Lib.hid (ptother_any w t own A c Vs d h)
  by_cases ho : othB own Vs.length d = true
  · obtain ⟨h0, h1, h2⟩ := othB_iff.1 ho
    have CF := Lib.hid (fun W (hr : MsAt W Al L) => vcof_any W Al cl L hr hn)
    have HT := Lib.hid h
    have HR := Lib.hid hr
    rw [ho] at CO
    have he : heardE own Vs.length d (chkE L) = chkE L := by unfold heardE; rw [if_pos ho]
    by_cases hc : chkE L = 0
    · obtain ⟨i, rfl⟩ := Int.eq_ofNat_of_zero_le h0
      have hi : i < Vs.length := by omega
      obtain ⟨x, hx⟩ : ∃ x, Vs[i]? = some x := ⟨Vs[i]'hi, List.getElem?_eq_getElem _⟩
      have HE := Lib.hid (fun W (h' : TabIs W t own A c (Vs.set i ⟨x.v, x.b, rjoin x.M L⟩)) (hc' : Ch (fun k => k = x.b) w W) => (show HeardEnd w t own A c Vs (i : Int) L (.returned (.int .i64 0)) W from ⟨_, by rw [he, hc], h', by
        rw [tabK_set]
        unfold heardK
        rw [tabK_len, he, if_pos hc, Int.toNat_natCast, tabK_get hx], map_set_same (y := ⟨x.v, x.b, rjoin x.M L⟩) (·.b) Vs i hx rfl, hc'.mono fun k _ hk => by subst hk; exact List.mem_map.2 ⟨x, List.mem_of_getElem? hx, rfl⟩⟩))
      have CJ := Lib.hid (fun W v b (h1 : VecIs W x.v x.b x.M) (h2 : VecIs W v b L) (hne : b ≠ x.b) => vcjoin_in W x.v x.b v b x.M L h1 h2 hne)
      have HX := Lib.hid hx
      have hz : chkE L = 0 := hc
      unfold OfEnd at CF
      simp only [hz, if_true] at CF
      clear h hr h0 h1 h2 hx he hc ho
      generalize hn' : Vs.length = n at *
      generalize L.length = nl at *
      generalize hN : w.heap.size = N at *
      go_enter Try.func51, Try.ntmps51
      go_wp2_with fail
      refine CO.out.mono ?_; rintro e w1 ⟨rfl, b1⟩
      have T1 := Lib.hid (And.intro (HT.out.up (by rw [hN]; exact b1)) (And.intro (HR.out.up (by rw [hN]; exact b1)) b1))
      have hz1 : N ≤ w1.heap.size := by have := b1.size; omega
      clear b1
      go_wp2_with fail
      refine (CF.out _ T1.out.2.1).mono ?_; rintro e w2 ⟨v, b, rfl, hv, hb, hvec, b2⟩
      have h2 := T1.out.1.up b2
      have B2 := Lib.hid (T1.out.2.2.trans (below_of_le b2 hz1))
      obtain ⟨b0, o0, hA, hb0, c0, hvx⟩ := h2.at_ HX.out
      have c1 := h2.c1
      rw [hn'] at c1
      have hcap := h2.cap
      have T2 := Lib.hid (And.intro h2 (And.intro hvx hvec))
      have hbx : b ≠ x.b := by
        have := (T1.out.1.vec x (List.mem_of_getElem? HX.out)).ltb
        omega
      clear h2 hvx hvec b2
      subst hA
      go_wp2_with fail
      refine (CJ.out _ v b T2.out.2.1 T2.out.2.2 hbx).mono ?_; rintro e w3 ⟨rfl, hv3, ch3⟩
      have H3 := Lib.hid (HE.out w3 (T2.out.1.join HX.out hv3 ch3) ((below_ch (hN ▸ B2.out : Below w.heap.size w w2)).trans ch3 (fun k _ hk => hk)))
      clear hv3 ch3
      go_wp2
      go_ret
      exact H3.out
    · have HE := Lib.hid (fun W (b : Below w.heap.size w W) => (show HeardEnd w t own A c Vs d L (.returned (.int .i64 (chkE L))) W from ⟨Vs, by rw [he], HT.out.up b, by
        unfold heardK
        rw [tabK_len, he, if_neg hc], rfl, below_ch b⟩))
      have hz : ¬ chkE L = 0 := hc
      unfold OfEnd at CF
      simp only [hz, if_false] at CF
      have hz' : (chkE L != 0) = true := by simpa using hz
      clear h hr h0 h1 h2 he hc ho hz
      generalize Vs.length = n at *
      generalize L.length = nl at *
      generalize chkE L = r at *
      generalize hN : w.heap.size = N at *
      go_enter Try.func51, Try.ntmps51
      go_wp2_with fail
      refine CO.out.mono ?_; rintro e w1 ⟨rfl, b1⟩
      go_wp2_with fail
      refine (CF.out _ (HR.out.up (by rw [hN]; exact b1))).mono ?_; rintro e w2 ⟨rfl, b2⟩
      have B2 := Lib.hid (b1.trans (below_of_le b2 (by have := b1.size; omega)))
      clear b1 b2
      go_wp2
      go_ret
      exact HE.out _ B2.out
  · rw [Bool.not_eq_true] at ho
    rw [ho] at CO
    have he : heardE own Vs.length d (chkE L) = 16 := by unfold heardE; rw [ho]; rfl
    have HE := Lib.hid (fun W (b : Below w.heap.size w W) => (show HeardEnd w t own A c Vs d L (.returned (.int .i64 16)) W from ⟨Vs, by rw [he], h.up b, by
        unfold heardK
        rw [tabK_len, he]
        rfl, rfl, below_ch b⟩))
    clear h hr he ho
    generalize Vs.length = n at *
    generalize L.length = nl at *
    generalize hN : w.heap.size = N at *
    go_enter Try.func51, Try.ntmps51
    go_wp2_with fail
    refine CO.out.mono ?_; rintro e w1 ⟨rfl, b1⟩
    go_wp2
    go_ret
    exact HE.out _ b1
theorem ptheard_nil (w : World) (d : Int) (v : Value) :
    Calls Try.prog 51 #[.pointer none, .int .i64 d, v] w fun e w' => e = .returned (.int .i64 17) ∧ Below w.heap.size w w' := by
  have B0 := Lib.hid (Below.refl w.heap.size w)
  go_enter Try.func51, Try.ntmps51
  go_wp2
  go_ret
  exact ⟨rfl, B0.out⟩
end Go.Proofs.Ytailbppddnegoaa
