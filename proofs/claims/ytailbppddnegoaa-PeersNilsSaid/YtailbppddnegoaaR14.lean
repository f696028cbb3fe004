/- Layer 36 (peers): the walk of the law PeersNils. -/
import Derived.Test.YtailbppddnegoaaR13
namespace Go.Proofs.Ytailbppddnegoaa
open Go.RowKit Go.Shelf
set_option linter.unusedVariables false
set_option linter.unusedSimpArgs false
set_option maxRecDepth 100000
attribute [local go_sem ↓] Go.wp_at_zero Go.wp_at_succ

/-- One word, laid in a block of its own. -/
theorem ws_one (w : World) (x : Wd) (h : WdOk w x) (t : TypeId) : WsAt (w.alloc (.cells #[.int .i64 x.dev, .slice x.A x.L.length x.c] t)) (some ⟨w.heap.size, 0, none⟩) [x] := by
  refine ⟨⟨rfl, fun _ => ⟨w.heap.size, 0, rfl, by simp, fun j u hu => ?_⟩⟩, fun y hy => ?_⟩
  · have hW := Whole.new w t #[.int .i64 x.dev, .slice x.A x.L.length x.c]
    rw [Nat.zero_add, hW.cell]
    simpa [wdC] using hu
  · simp at hy
    subst hy
    exact h.up (below_alloc_book _ _)
theorem lightB_one (x : Wd) : lightB [x] = decide (x.L.length ≤ 50) := by simp [lightB]
set_option maxHeartbeats 8000000 in
theorem peersNils_law (w : World) {a mv : Int} {vw : Value} (wa : (Lit.int .u8 a).wf = true) (hw : IsWord w vw) (wm : (Lit.int .u8 mv).wf = true) :
    Calls Try.prog 13 #[.int .u8 a, vw, .int .u8 mv] w fun e w' => e = .returned (.bool true) ∧ Below w.heap.size w w' := by
  obtain ⟨x, rfl, hx⟩ := hw
  have hmx : maxLen ≤ 9223372036854775807 := by decide
  have hxl := hx.len
  have hxc := hx.cap
  obtain ⟨f1, f1'⟩ := bounds_u8 wa
  obtain ⟨f2, f2'⟩ := bounds_u8 wm
  obtain ⟨n, hn, hn1, hn64⟩ : ∃ n : Nat, a % 64 + 1 = (n : Int) ∧ 1 ≤ n ∧ n ≤ 64 := ⟨(a % 64 + 1).toNat, by omega, by omega, by omega⟩
  have C9 := Lib.hid awake36_any
  have CL := Lib.hid (fun W k (h : WsAt W (some ⟨k, 0, none⟩) [x]) => (show Calls Try.prog 48 #[.slice (some ⟨k, 0, none⟩) 1 1] W (fun e w' => e = .returned (.bool (lightB [x])) ∧ Below W.heap.size W w') from light36_any W (some ⟨k, 0, none⟩) 1 [x] h (by simp)))
  rw [lightB_one] at CL
  have CN := Lib.hid (fun W => ptnew_ok W n 0 hn1 hn64 (by omega) (by omega))
  have CA := Lib.hid (fun w1 w t A c Vs B1 B2 h hvl hb hB1 h1 h2 => ptall_clos w1 w t A c n Vs B1 B2 mv h hvl hn1 hn64 hb hB1 h1 h2 ⟨by omega, by omega⟩)
  have CH := Lib.hid (fun W => ptheard_nil W x.dev (.slice x.A x.L.length x.c))
  have CK := Lib.hid (fun W => ptknown_nil W x.dev)
  have CS := Lib.hid (fun W (h : MsAt W x.A x.L) => ptstable_no W none x.A x.c x.L h (by omega) (.inl rfl))
  have CO := Lib.hid (fun W => ptothers_nil W)
  have CE := Lib.hid (fun W => (show Calls Try.prog 68 #[.pointer none, .slice none 0 0] W (fun e w' => e = .returned (.bool false) ∧ Below W.heap.size W w') from pteven_no W none none 0 [] (MsAt.nil W) (by decide) (.inl rfl)))
  have hmin : min (a % 64) (mv % 8 + 1) = min ((n : Int) - 1) (mv % 8 + 1) := by omega
  generalize hN : w.heap.size = N at *
  have HX := Lib.hid hx
  obtain ⟨xd, xA, xc, xL⟩ := x
  simp only at CL CH CK CS hxl hxc
  generalize hxn : xL.length = xn at *
  have HXn := Lib.hid hxn
  have H0 := Lib.hid (show Whole ((w.alloc (.cells #[.int .i64 xd, .slice xA xn xc] 68)).alloc (.cells #[.int .u8 mv] 5)) N 68 #[.int .i64 xd, .slice xA xn xc] ∧ Whole ((w.alloc (.cells #[.int .i64 xd, .slice xA xn xc] 68)).alloc (.cells #[.int .u8 mv] 5)) (N + 1) 5 #[.int .u8 mv] ∧ Below N w ((w.alloc (.cells #[.int .i64 xd, .slice xA xn xc] 68)).alloc (.cells #[.int .u8 mv] 5)) from by
    refine ⟨?_, ?_, ((Below.refl N w).alloc (by omega) _).alloc (by simp; omega) _⟩
    · have := (Whole.new w 68 #[.int .i64 xd, .slice xA xn xc]).alloc (.cells #[.int .u8 mv] 5)
      rw [hN] at this
      exact this
    · have := Whole.new (w.alloc (.cells #[.int .i64 xd, .slice xA xn xc] 68)) 5 #[.int .u8 mv]
      simp only [World.size_alloc] at this
      rw [hN] at this
      exact this)
  clear hx
  change Calls Try.prog 13 #[.int .u8 a, .agg #[.int .i64 xd, .slice xA xL.length xc], .int .u8 mv] w _
  rw [hxn]
  clear hxn
  go_enter Try.func13, Try.ntmps13
  go_wp2_with fail
  obtain ⟨W0, hW0⟩ : ∃ W0, ((w.alloc (.cells #[.int .i64 xd, .slice xA xn xc] 68)).alloc (.cells #[.int .u8 mv] 5)) = W0 := ⟨_, rfl⟩
  have hz0 : W0.heap.size = N + 1 + 1 := by rw [← hW0]; simp [hN]
  rw [hW0] at H0 ⊢
  have hx0 : WdOk W0 ⟨xd, xA, xc, xL⟩ := HX.out.up (hN ▸ H0.out.2.2)
  have hws := ws_one W0 ⟨xd, xA, xc, xL⟩ hx0 68
  rw [hz0] at hws
  simp only [HXn.out] at hws
  have bb := below_alloc_book W0 (.cells #[.int .i64 xd, .slice xA xn xc] 68)
  have H1 := Lib.hid (And.intro (H0.out.1.below bb H0.out.1.lt) (And.intro (H0.out.2.1.below bb H0.out.2.1.lt) (H0.out.2.2.trans (below_of_le bb (by omega)))))
  have hz1 : (W0.alloc (.cells #[.int .i64 xd, .slice xA xn xc] 68)).heap.size = N + 1 + 1 + 1 := by simp [hz0]
  have HWS := Lib.hid hws
  clear hW0 hx0 hws bb H0
  generalize (W0.alloc (.cells #[.int .i64 xd, .slice xA xn xc] 68)) = W1 at *
  refine (CL.out _ _ HWS.out).mono ?_; rintro e w1 ⟨rfl, b1⟩
  have H2 := Lib.hid (And.intro (H1.out.1.below b1 H1.out.1.lt) (And.intro (H1.out.2.1.below b1 H1.out.2.1.lt) (H1.out.2.2.trans (below_of_le b1 (by omega)))))
  have hz2 : N + 1 + 1 ≤ w1.heap.size := by have := b1.size; omega
  clear b1 H1 HWS CL
  by_cases h50 : xn ≤ 50
  · rw [decide_eq_true h50]
    go_wp2_with fail
    refine (CN.out w1).mono ?_; rintro e w2 ⟨t, A, c, Vs, rfl, ht, hT, hK, hlo, b2⟩
    have hvl : Vs.length = n := by rw [← tabK_len, hK, List.length_replicate]
    have hs2 := b2.size
    have H3 := Lib.hid (And.intro (H2.out.1.below b2 (by omega)) (And.intro (H2.out.2.1.below b2 (by omega)) (And.intro (H2.out.2.2.trans (below_of_le b2 (by omega))) hT)))
    clear b2 hT hK hlo H2 CN
    go_wp2_with fail
    have bb := below_alloc_book w2 (.cells #[.int .i64 0] 3)
    have H4 := Lib.hid (And.intro (H3.out.1.below bb H3.out.1.lt) (And.intro (H3.out.2.1.below bb H3.out.2.1.lt) (And.intro (H3.out.2.2.1.trans (below_of_le bb (by omega))) (And.intro (Whole.new w2 3 #[.int .i64 0]) bb))))
    generalize hbm : w2.heap.size = bm at *
    have hz4 : bm < (w2.alloc (.cells #[.int .i64 0] 3)).heap.size := by simp; omega
    generalize (w2.alloc (.cells #[.int .i64 0] 3)) = W4 at *
    refine (CA.out w2 W4 t A c Vs bm (N + 1) H3.out.2.2.2 hvl (by rw [hbm]; exact H4.out.2.2.2.2) (by omega) H4.out.2.2.2.1 H4.out.2.1).mono ?_
    rintro e w5 ⟨rfl, hW5, ch5⟩
    have H5 := Lib.hid (show Whole w5 N 68 #[.int .i64 xd, .slice xA xn xc] ∧ Whole w5 (N + 1) 5 #[.int .u8 mv] ∧ Below N w w5 ∧ Whole w5 bm 3 #[.int .i64 (min ((n : Int) - 1) (mv % 8 + 1))] from
      ⟨H4.out.1.ch ch5 (by omega), H4.out.2.1.ch ch5 (by omega), H4.out.2.2.1.trans (ch5.below (fun k hk e => by omega) (by omega)), hW5⟩)
    have hs5 := ch5.size
    clear hW5 ch5 H4 H3 CA
    rw [← hmin] at H5
    have hnm : a % 64 = (n : Int) - 1 := by omega
    obtain ⟨met, hmet⟩ : ∃ met : Int, min (a % 64) (mv % 8 + 1) = met := ⟨_, rfl⟩
    rw [hmet] at H5
    have c0 := H5.out.2.2.2.cell 0
    have c1 := H5.out.2.1.cell 0
    have c2 := H5.out.1.cell 0
    have c3 := H5.out.1.cell 1
    change _ = some (Value.int .i64 met) at c0
    change _ = some (Value.int .u8 mv) at c1
    change _ = some (Value.int .i64 xd) at c2
    change _ = some (Value.slice xA xn xc) at c3
    have HB5 := Lib.hid H5.out.2.2.1
    have hm5 : MsAt w5 xA xL := HX.out.at_.up (hN ▸ HB5.out)
    have HM5 := Lib.hid hm5
    clear H5 hm5 hnm hmin hn
    have q1 : IntKind.i64.wrap (a.tmod 64) = a % 64 := by rw [Int.tmod_eq_emod_of_nonneg f1]; exact IntWalk.i64_in _ (by omega)
    have q2 : IntKind.i64.wrap (mv.tmod 8) = mv % 8 := by rw [Int.tmod_eq_emod_of_nonneg f2]; exact IntWalk.i64_in _ (by omega)
    have q3 : IntKind.i64.wrap (mv % 8 + 1) = mv % 8 + 1 := IntWalk.i64_in _ (by omega)
    have q4 : (met == met) = true := by simp
    go_upto_region 7 with fail
    refine wp_region_held_drew (S := (fun W => W.cell? ⟨bm, 0, none⟩ = some (.int .i64 met) ∧ W.cell? ⟨N + 1, 0, none⟩ = some (.int .u8 mv) ∧ W.cell? ⟨N, 0, none⟩ = some (.int .i64 xd) ∧ W.cell? ⟨N, 1, none⟩ = some (.slice xA xn xc))) (by kernel_rfl) ?_ (fun hHeld => ?_)
    · (try dsimp only); exact ⟨c0, c1, c2, c3⟩
    refine wpAnyH_take (i := 0) (v := ?_) rfl (by kernel_rfl) (by kernel_rfl) (by kernel_rfl) (fun _ _ _ h => h) (Or.inl ⟨by rfl, ?_⟩) (by assumption) ?_
    rotate_left
    first | (focus ((intro w hSw; (try dsimp only at hSw); go_simp); (try with_reducible rfl); done)) | fail
    try simp only [Act.put, List.getElem_toArray, List.getElem_cons_zero, List.setIfInBounds_toArray, List.set_cons_zero, List.set_cons_succ]
    refine wpAnyH_take (i := 1) (v := ?_) rfl (by kernel_rfl) (by kernel_rfl) (by kernel_rfl) (fun _ _ _ h => h) (Or.inl ⟨by rfl, ?_⟩) (by assumption) ?_
    rotate_left
    first | (focus ((intro w hSw; (try dsimp only at hSw); go_simp); (try with_reducible rfl); done)) | fail
    try simp only [Act.put, List.getElem_toArray, List.getElem_cons_zero, List.getElem_cons_succ, List.setIfInBounds_toArray, List.set_cons_zero, List.set_cons_succ]
    refine wpAnyH_take (i := 2) (v := ?_) rfl (by kernel_rfl) (by kernel_rfl) (by kernel_rfl) (fun _ _ _ h => h) (Or.inl ⟨by rfl, ?_⟩) (by assumption) ?_
    rotate_left
    first | (focus ((intro w hSw; (try dsimp only at hSw); go_simp); (try with_reducible rfl); done)) | fail
    try simp only [Act.put, List.getElem_toArray, List.getElem_cons_zero, List.getElem_cons_succ, List.setIfInBounds_toArray, List.set_cons_zero, List.set_cons_succ]
    refine wpAnyH_take (i := 3) (v := ?_) rfl (by kernel_rfl) (by kernel_rfl) (by kernel_rfl) (fun _ _ _ h => h) (Or.inl ⟨by rfl, ?_⟩) (by assumption) ?_
    rotate_left
    first | (focus ((intro w hSw; (try dsimp only at hSw); go_simp); (try with_reducible rfl); done)) | fail
    try simp only [Act.put, List.getElem_toArray, List.getElem_cons_zero, List.getElem_cons_succ, List.setIfInBounds_toArray, List.set_cons_zero, List.set_cons_succ]
    refine wpAnyH_take (i := 4) (v := ?_) rfl (by kernel_rfl) (by kernel_rfl) (by kernel_rfl) (fun _ _ _ h => h) (Or.inl ⟨by rfl, ?_⟩) (by assumption) ?_
    rotate_left
    first | (focus ((intro w hSw; (try dsimp only at hSw); go_simp); (try with_reducible rfl); done)) | fail
    try simp only [Act.put, List.getElem_toArray, List.getElem_cons_zero, List.getElem_cons_succ, List.setIfInBounds_toArray, List.set_cons_zero, List.set_cons_succ]
    refine wpAnyH_take (i := 5) (v := ?_) rfl (by kernel_rfl) (by kernel_rfl) (by kernel_rfl) (fun _ _ _ h => h) (Or.inl ⟨by rfl, ?_⟩) (by assumption) ?_
    rotate_left
    first | (focus ((intro w hSw; (try dsimp only at hSw); go_simp); (try with_reducible rfl); done)) | fail
    try simp only [Act.put, List.getElem_toArray, List.getElem_cons_zero, List.getElem_cons_succ, List.setIfInBounds_toArray, List.set_cons_zero, List.set_cons_succ]
    refine wpAnyH_take (i := 6) (v := ?_) rfl (by kernel_rfl) (by kernel_rfl) (by kernel_rfl) (fun _ _ _ h => h) (Or.inl ⟨by rfl, ?_⟩) (by assumption) ?_
    rotate_left
    first | (focus ((intro w hSw; (try dsimp only at hSw); go_simp); (try with_reducible rfl); done)) | fail
    try simp only [Act.put, List.getElem_toArray, List.getElem_cons_zero, List.getElem_cons_succ, List.setIfInBounds_toArray, List.set_cons_zero, List.set_cons_succ]
    refine wpAnyH_take (i := 7) (v := ?_) rfl (by kernel_rfl) (by kernel_rfl) (by kernel_rfl) (fun _ _ _ h => h) (Or.inl ⟨by rfl, ?_⟩) (by assumption) ?_
    rotate_left
    first | (focus ((intro w hSw; (try dsimp only at hSw); go_simp); (try with_reducible rfl); done)) | fail
    try simp only [Act.put, List.getElem_toArray, List.getElem_cons_zero, List.getElem_cons_succ, List.setIfInBounds_toArray, List.set_cons_zero, List.set_cons_succ]
    refine wpAnyH_take (i := 8) (v := ?_) rfl (by kernel_rfl) (by kernel_rfl) (by kernel_rfl) (fun _ _ _ h => h) (Or.inl ⟨by rfl, ?_⟩) (by assumption) ?_
    rotate_left
    first | (focus ((intro w hSw; (try dsimp only at hSw); go_simp); (try with_reducible rfl); done)) | fail
    try simp only [Act.put, List.getElem_toArray, List.getElem_cons_zero, List.getElem_cons_succ, List.setIfInBounds_toArray, List.set_cons_zero, List.set_cons_succ]
    refine wpAnyH_take (i := 9) (v := ?_) rfl (by kernel_rfl) (by kernel_rfl) (by kernel_rfl) (fun _ _ _ h => h) (Or.inl ⟨by rfl, ?_⟩) (by assumption) ?_
    rotate_left
    first | (focus ((intro w hSw; (try dsimp only at hSw); go_simp); (try with_reducible rfl); done)) | fail
    try simp only [Act.put, List.getElem_toArray, List.getElem_cons_zero, List.getElem_cons_succ, List.setIfInBounds_toArray, List.set_cons_zero, List.set_cons_succ]
    refine wpAnyH_take (i := 10) (v := ?_) rfl (by kernel_rfl) (by kernel_rfl) (by kernel_rfl) (fun _ _ _ h => h) (Or.inl ⟨by rfl, ?_⟩) (by assumption) ?_
    rotate_left
    first | (focus ((intro w hSw; (try dsimp only at hSw); go_simp); (try with_reducible rfl); done)) | fail
    try simp only [Act.put, List.getElem_toArray, List.getElem_cons_zero, List.getElem_cons_succ, List.setIfInBounds_toArray, List.set_cons_zero, List.set_cons_succ]
    refine wpAnyH_take (i := 11) (v := ?_) rfl (by kernel_rfl) (by kernel_rfl) (by kernel_rfl) (fun _ _ _ h => h) (Or.inl ⟨by rfl, ?_⟩) (by assumption) ?_
    rotate_left
    first | (focus ((intro w hSw; (try dsimp only at hSw); go_simp); (try with_reducible rfl); done)) | fail
    try simp only [Act.put, List.getElem_toArray, List.getElem_cons_zero, List.getElem_cons_succ, List.setIfInBounds_toArray, List.set_cons_zero, List.set_cons_succ]
    refine wpAnyH_take (i := 12) (v := ?_) rfl (by kernel_rfl) (by kernel_rfl) (by kernel_rfl) (fun _ _ _ h => h) (Or.inl ⟨by rfl, ?_⟩) (by assumption) ?_
    rotate_left
    first | (focus ((intro w hSw; (try dsimp only at hSw); go_simp); (try with_reducible rfl); done)) | fail
    try simp only [Act.put, List.getElem_toArray, List.getElem_cons_zero, List.getElem_cons_succ, List.setIfInBounds_toArray, List.set_cons_zero, List.set_cons_succ]
    refine wpAnyH_take (i := 13) (v := ?_) rfl (by kernel_rfl) (by kernel_rfl) (by kernel_rfl) (fun _ _ _ h => h) (Or.inl ⟨by rfl, ?_⟩) (by assumption) ?_
    rotate_left
    first | (focus ((intro w hSw; (try dsimp only at hSw); go_simp); (try with_reducible rfl); done)) | fail
    try simp only [Act.put, List.getElem_toArray, List.getElem_cons_zero, List.getElem_cons_succ, List.setIfInBounds_toArray, List.set_cons_zero, List.set_cons_succ]
    refine wpAnyH_take (i := 14) (v := ?_) rfl (by kernel_rfl) (by kernel_rfl) (by kernel_rfl) (fun _ _ _ h => h) (Or.inl ⟨by rfl, ?_⟩) (by assumption) ?_
    rotate_left
    first | (focus ((intro w hSw; (try dsimp only at hSw); go_simp); (try with_reducible rfl); done)) | fail
    try simp only [Act.put, List.getElem_toArray, List.getElem_cons_zero, List.getElem_cons_succ, List.setIfInBounds_toArray, List.set_cons_zero, List.set_cons_succ]
    refine wpAnyH_take (i := 15) (v := ?_) rfl (by kernel_rfl) (by kernel_rfl) (by kernel_rfl) (fun _ _ _ h => h) (Or.inl ⟨by rfl, ?_⟩) (by assumption) ?_
    rotate_left
    first | (focus ((intro w hSw; (try dsimp only at hSw); go_simp); (try with_reducible rfl); done)) | fail
    try simp only [Act.put, List.getElem_toArray, List.getElem_cons_zero, List.getElem_cons_succ, List.setIfInBounds_toArray, List.set_cons_zero, List.set_cons_succ]
    refine wpAnyH_take (i := 16) (v := ?_) rfl (by kernel_rfl) (by kernel_rfl) (by kernel_rfl) (fun _ _ _ h => h) (Or.inl ⟨by rfl, ?_⟩) (by assumption) ?_
    rotate_left
    first | (focus ((intro w hSw; (try dsimp only at hSw); go_simp); (try with_reducible rfl); done)) | fail
    try simp only [Act.put, List.getElem_toArray, List.getElem_cons_zero, List.getElem_cons_succ, List.setIfInBounds_toArray, List.set_cons_zero, List.set_cons_succ]
    refine wpAnyH_take (i := 17) (v := ?_) rfl (by kernel_rfl) (by kernel_rfl) (by kernel_rfl) (fun _ _ _ h => h) (Or.inl ⟨by rfl, ?_⟩) (by assumption) ?_
    rotate_left
    first | (focus ((intro w hSw; (try dsimp only at hSw); go_simp); (try with_reducible rfl); done)) | fail
    try simp only [Act.put, List.getElem_toArray, List.getElem_cons_zero, List.getElem_cons_succ, List.setIfInBounds_toArray, List.set_cons_zero, List.set_cons_succ]
    refine wpAnyH_take (i := 18) (v := ?_) rfl (by kernel_rfl) (by kernel_rfl) (by kernel_rfl) (fun _ _ _ h => h) (Or.inl ⟨by rfl, ?_⟩) (by assumption) ?_
    rotate_left
    first | (focus ((intro w hSw; (try dsimp only at hSw); go_simp); (try with_reducible rfl); done)) | fail
    try simp only [Act.put, List.getElem_toArray, List.getElem_cons_zero, List.getElem_cons_succ, List.setIfInBounds_toArray, List.set_cons_zero, List.set_cons_succ]
    refine wpAnyH_take (i := 19) (v := ?_) rfl (by kernel_rfl) (by kernel_rfl) (by kernel_rfl) (fun _ _ _ h => h) (Or.inl ⟨by rfl, ?_⟩) (by assumption) ?_
    rotate_left
    first | (focus ((intro w hSw; (try dsimp only at hSw); go_simp); (try with_reducible rfl); done)) | fail
    try simp only [Act.put, List.getElem_toArray, List.getElem_cons_zero, List.getElem_cons_succ, List.setIfInBounds_toArray, List.set_cons_zero, List.set_cons_succ]
    refine wpAnyH_ready (rs := [20]) (by kernel_rfl) (by simp) ?_
    refine AllReadyH.cons rfl (fun K hK => ?_) AllReadyH.nil
    go_simp
    refine (CH.out _).mono ?_; rintro e v1 ⟨rfl, d1⟩
    go_wp2_with fail
    refine hK.out _ _ ?_ (fun hHeld => ?_)
    · (try dsimp only); exact ⟨(d1.cell (by simp only [World.size_drew]; omega)).trans hHeld.1, (d1.cell (by simp only [World.size_drew]; omega)).trans hHeld.2.1, (d1.cell (by simp only [World.size_drew]; omega)).trans hHeld.2.2.1, (d1.cell (by simp only [World.size_drew]; omega)).trans hHeld.2.2.2⟩
    clear hK K
    try simp only [Act.put, List.getElem_toArray, List.getElem_cons_zero, List.getElem_cons_succ, List.setIfInBounds_toArray, List.set_cons_zero, List.set_cons_succ]
    have d1' : Below w5.heap.size w5 v1 := (Below.drew (Below.refl _ _)).trans d1
    have s1 := d1'.size
    refine wpAnyH_take (i := 21) (v := ?_) rfl (by kernel_rfl) (by kernel_rfl) (by kernel_rfl) (fun _ _ _ h => h) (Or.inl ⟨by rfl, ?_⟩) (by assumption) ?_
    rotate_left
    first | (focus ((intro w hSw; (try dsimp only at hSw); go_simp); (try with_reducible rfl); done)) | fail
    try simp only [Act.put, List.getElem_toArray, List.getElem_cons_zero, List.getElem_cons_succ, List.setIfInBounds_toArray, List.set_cons_zero, List.set_cons_succ]
    refine wpAnyH_take (i := 22) (v := ?_) rfl (by kernel_rfl) (by kernel_rfl) (by kernel_rfl) (fun _ _ _ h => h) (Or.inl ⟨by rfl, ?_⟩) (by assumption) ?_
    rotate_left
    first | (focus ((intro w hSw; (try dsimp only at hSw); go_simp); (try with_reducible rfl); done)) | fail
    try simp only [Act.put, List.getElem_toArray, List.getElem_cons_zero, List.getElem_cons_succ, List.setIfInBounds_toArray, List.set_cons_zero, List.set_cons_succ]
    refine wpAnyH_take (i := 23) (v := ?_) rfl (by kernel_rfl) (by kernel_rfl) (by kernel_rfl) (fun _ _ _ h => h) (Or.inl ⟨by rfl, ?_⟩) (by assumption) ?_
    rotate_left
    first | (focus ((intro w hSw; (try dsimp only at hSw); go_simp); (try with_reducible rfl); done)) | fail
    try simp only [Act.put, List.getElem_toArray, List.getElem_cons_zero, List.getElem_cons_succ, List.setIfInBounds_toArray, List.set_cons_zero, List.set_cons_succ]
    refine wpAnyH_take (i := 24) (v := ?_) rfl (by kernel_rfl) (by kernel_rfl) (by kernel_rfl) (fun _ _ _ h => h) (Or.inl ⟨by rfl, ?_⟩) (by assumption) ?_
    rotate_left
    first | (focus ((intro w hSw; (try dsimp only at hSw); go_simp); (try with_reducible rfl); done)) | fail
    try simp only [Act.put, List.getElem_toArray, List.getElem_cons_zero, List.getElem_cons_succ, List.setIfInBounds_toArray, List.set_cons_zero, List.set_cons_succ]
    refine wpAnyH_take (i := 25) (v := ?_) rfl (by kernel_rfl) (by kernel_rfl) (by kernel_rfl) (fun _ _ _ h => h) (Or.inl ⟨by rfl, ?_⟩) (by assumption) ?_
    rotate_left
    first | (focus ((intro w hSw; (try dsimp only at hSw); go_simp); (try with_reducible rfl); done)) | fail
    try simp only [Act.put, List.getElem_toArray, List.getElem_cons_zero, List.getElem_cons_succ, List.setIfInBounds_toArray, List.set_cons_zero, List.set_cons_succ]
    refine wpAnyH_take (i := 26) (v := ?_) rfl (by kernel_rfl) (by kernel_rfl) (by kernel_rfl) (fun _ _ _ h => h) (Or.inl ⟨by rfl, ?_⟩) (by assumption) ?_
    rotate_left
    first | (focus ((intro w hSw; (try dsimp only at hSw); go_simp); (try with_reducible rfl); done)) | fail
    try simp only [Act.put, List.getElem_toArray, List.getElem_cons_zero, List.getElem_cons_succ, List.setIfInBounds_toArray, List.set_cons_zero, List.set_cons_succ]
    refine wpAnyH_take (i := 29) (v := ?_) rfl (by kernel_rfl) (by kernel_rfl) (by kernel_rfl) (fun _ _ _ h => h) (Or.inl ⟨by rfl, ?_⟩) (by assumption) ?_
    rotate_left
    first | (focus ((intro w hSw; (try dsimp only at hSw); go_simp); (try with_reducible rfl); done)) | fail
    try simp only [Act.put, List.getElem_toArray, List.getElem_cons_zero, List.getElem_cons_succ, List.setIfInBounds_toArray, List.set_cons_zero, List.set_cons_succ]
    refine wpAnyH_take (i := 30) (v := ?_) rfl (by kernel_rfl) (by kernel_rfl) (by kernel_rfl) (fun _ _ _ h => h) (Or.inl ⟨by rfl, ?_⟩) (by assumption) ?_
    rotate_left
    first | (focus ((intro w hSw; (try dsimp only at hSw); go_simp); (try with_reducible rfl); done)) | fail
    try simp only [Act.put, List.getElem_toArray, List.getElem_cons_zero, List.getElem_cons_succ, List.setIfInBounds_toArray, List.set_cons_zero, List.set_cons_succ]
    refine wpAnyH_take (i := 31) (v := ?_) rfl (by kernel_rfl) (by kernel_rfl) (by kernel_rfl) (fun _ _ _ h => h) (Or.inl ⟨by rfl, ?_⟩) (by assumption) ?_
    rotate_left
    first | (focus ((intro w hSw; (try dsimp only at hSw); go_simp); (try with_reducible rfl); done)) | fail
    try simp only [Act.put, List.getElem_toArray, List.getElem_cons_zero, List.getElem_cons_succ, List.setIfInBounds_toArray, List.set_cons_zero, List.set_cons_succ]
    refine wpAnyH_take (i := 35) (v := ?_) rfl (by kernel_rfl) (by kernel_rfl) (by kernel_rfl) (fun _ _ _ h => h) (Or.inl ⟨by rfl, ?_⟩) (by assumption) ?_
    rotate_left
    first | (focus ((intro w hSw; (try dsimp only at hSw); go_simp); (try with_reducible rfl); done)) | fail
    try simp only [Act.put, List.getElem_toArray, List.getElem_cons_zero, List.getElem_cons_succ, List.setIfInBounds_toArray, List.set_cons_zero, List.set_cons_succ]
    refine wpAnyH_ready (rs := [27]) (by kernel_rfl) (by simp) ?_
    refine AllReadyH.cons rfl (fun K hK => ?_) AllReadyH.nil
    go_simp
    refine (CK.out _).mono ?_; rintro e v2 ⟨A2, c2, rfl, m2, d2⟩
    go_wp2_with fail
    refine hK.out _ _ ?_ (fun hHeld => ?_)
    · (try dsimp only); exact ⟨(d2.cell (by simp only [World.size_drew]; omega)).trans hHeld.1, (d2.cell (by simp only [World.size_drew]; omega)).trans hHeld.2.1, (d2.cell (by simp only [World.size_drew]; omega)).trans hHeld.2.2.1, (d2.cell (by simp only [World.size_drew]; omega)).trans hHeld.2.2.2⟩
    clear hK K
    try simp only [Act.put, List.getElem_toArray, List.getElem_cons_zero, List.getElem_cons_succ, List.setIfInBounds_toArray, List.set_cons_zero, List.set_cons_succ]
    have d2' : Below w5.heap.size w5 v2 := d1'.trans (below_of_le d2 s1)
    have s2 := d2'.size
    refine wpAnyH_take (i := 28) (v := ?_) rfl (by kernel_rfl) (by kernel_rfl) (by kernel_rfl) (fun _ _ _ h => h) (Or.inl ⟨by rfl, ?_⟩) (by assumption) ?_
    rotate_left
    first | (focus ((intro w hSw; (try dsimp only at hSw); go_simp); (try with_reducible rfl); done)) | fail
    try simp only [Act.put, List.getElem_toArray, List.getElem_cons_zero, List.getElem_cons_succ, List.setIfInBounds_toArray, List.set_cons_zero, List.set_cons_succ]
    refine wpAnyH_ready (rs := [32]) (by kernel_rfl) (by simp) ?_
    refine AllReadyH.cons rfl (fun K hK => ?_) AllReadyH.nil
    go_simp
    refine (CS.out _ (HM5.out.up d2')).mono ?_; rintro e v3 ⟨A3, c3, rfl, m3, d3⟩
    go_wp2_with fail
    refine hK.out _ _ ?_ (fun hHeld => ?_)
    · (try dsimp only); exact ⟨(d3.cell (by simp only [World.size_drew]; omega)).trans hHeld.1, (d3.cell (by simp only [World.size_drew]; omega)).trans hHeld.2.1, (d3.cell (by simp only [World.size_drew]; omega)).trans hHeld.2.2.1, (d3.cell (by simp only [World.size_drew]; omega)).trans hHeld.2.2.2⟩
    clear hK K
    try simp only [Act.put, List.getElem_toArray, List.getElem_cons_zero, List.getElem_cons_succ, List.setIfInBounds_toArray, List.set_cons_zero, List.set_cons_succ]
    have d3' : Below w5.heap.size w5 v3 := d2'.trans (below_of_le d3 s2)
    have s3 := d3'.size
    refine wpAnyH_take (i := 33) (v := ?_) rfl (by kernel_rfl) (by kernel_rfl) (by kernel_rfl) (fun _ _ _ h => h) (Or.inl ⟨by rfl, ?_⟩) (by assumption) ?_
    rotate_left
    first | (focus ((intro w hSw; (try dsimp only at hSw); go_simp); (try with_reducible rfl); done)) | fail
    try simp only [Act.put, List.getElem_toArray, List.getElem_cons_zero, List.getElem_cons_succ, List.setIfInBounds_toArray, List.set_cons_zero, List.set_cons_succ]
    refine wpAnyH_take (i := 34) (v := ?_) rfl (by kernel_rfl) (by kernel_rfl) (by kernel_rfl) (fun _ _ _ h => h) (Or.inl ⟨by rfl, ?_⟩) (by assumption) ?_
    rotate_left
    first | (focus ((intro w hSw; (try dsimp only at hSw); go_simp); (try with_reducible rfl); done)) | fail
    try simp only [Act.put, List.getElem_toArray, List.getElem_cons_zero, List.getElem_cons_succ, List.setIfInBounds_toArray, List.set_cons_zero, List.set_cons_succ]
    refine wpAnyH_ready (rs := [36]) (by kernel_rfl) (by simp) ?_
    refine AllReadyH.cons rfl (fun K hK => ?_) AllReadyH.nil
    go_simp
    refine (CO.out _).mono ?_; rintro e v4 ⟨rfl, d4⟩
    go_wp2_with fail
    refine hK.out _ _ ?_ (fun hHeld => ?_)
    · (try dsimp only); exact ⟨(d4.cell (by simp only [World.size_drew]; omega)).trans hHeld.1, (d4.cell (by simp only [World.size_drew]; omega)).trans hHeld.2.1, (d4.cell (by simp only [World.size_drew]; omega)).trans hHeld.2.2.1, (d4.cell (by simp only [World.size_drew]; omega)).trans hHeld.2.2.2⟩
    clear hK K
    try simp only [Act.put, List.getElem_toArray, List.getElem_cons_zero, List.getElem_cons_succ, List.setIfInBounds_toArray, List.set_cons_zero, List.set_cons_succ]
    have d4' : Below w5.heap.size w5 v4 := d3'.trans (below_of_le d4 s3)
    have s4 := d4'.size
    refine wpAnyH_take (i := 37) (v := ?_) rfl (by kernel_rfl) (by kernel_rfl) (by kernel_rfl) (fun _ _ _ h => h) (Or.inl ⟨by rfl, ?_⟩) (by assumption) ?_
    rotate_left
    first | (focus ((intro w hSw; (try dsimp only at hSw); go_simp); (try with_reducible rfl); done)) | fail
    try simp only [Act.put, List.getElem_toArray, List.getElem_cons_zero, List.getElem_cons_succ, List.setIfInBounds_toArray, List.set_cons_zero, List.set_cons_succ]
    refine wpAnyH_take (i := 38) (v := ?_) rfl (by kernel_rfl) (by kernel_rfl) (by kernel_rfl) (fun _ _ _ h => h) (Or.inl ⟨by rfl, ?_⟩) (by assumption) ?_
    rotate_left
    first | (focus ((intro w hSw; (try dsimp only at hSw); go_simp); (try with_reducible rfl); done)) | fail
    try simp only [Act.put, List.getElem_toArray, List.getElem_cons_zero, List.getElem_cons_succ, List.setIfInBounds_toArray, List.set_cons_zero, List.set_cons_succ]
    refine wpAnyH_take (i := 39) (v := ?_) rfl (by kernel_rfl) (by kernel_rfl) (by kernel_rfl) (fun _ _ _ h => h) (Or.inl ⟨by rfl, ?_⟩) (by assumption) ?_
    rotate_left
    first | (focus ((intro w hSw; (try dsimp only at hSw); go_simp); (try with_reducible rfl); done)) | fail
    try simp only [Act.put, List.getElem_toArray, List.getElem_cons_zero, List.getElem_cons_succ, List.setIfInBounds_toArray, List.set_cons_zero, List.set_cons_succ]
    refine wpAnyH_take (i := 40) (v := ?_) rfl (by kernel_rfl) (by kernel_rfl) (by kernel_rfl) (fun _ _ _ h => h) (Or.inl ⟨by rfl, ?_⟩) (by assumption) ?_
    rotate_left
    first | (focus ((intro w hSw; (try dsimp only at hSw); go_simp); (try with_reducible rfl); done)) | fail
    try simp only [Act.put, List.getElem_toArray, List.getElem_cons_zero, List.getElem_cons_succ, List.setIfInBounds_toArray, List.set_cons_zero, List.set_cons_succ]
    refine wpAnyH_take (i := 41) (v := ?_) rfl (by kernel_rfl) (by kernel_rfl) (by kernel_rfl) (fun _ _ _ h => h) (Or.inl ⟨by rfl, ?_⟩) (by assumption) ?_
    rotate_left
    first | (focus ((intro w hSw; (try dsimp only at hSw); go_simp); (try with_reducible rfl); done)) | fail
    try simp only [Act.put, List.getElem_toArray, List.getElem_cons_zero, List.getElem_cons_succ, List.setIfInBounds_toArray, List.set_cons_zero, List.set_cons_succ]
    refine wpAnyH_take (i := 42) (v := ?_) rfl (by kernel_rfl) (by kernel_rfl) (by kernel_rfl) (fun _ _ _ h => h) (Or.inl ⟨by rfl, ?_⟩) (by assumption) ?_
    rotate_left
    first | (focus ((intro w hSw; (try dsimp only at hSw); go_simp); (try with_reducible rfl); done)) | fail
    try simp only [Act.put, List.getElem_toArray, List.getElem_cons_zero, List.getElem_cons_succ, List.setIfInBounds_toArray, List.set_cons_zero, List.set_cons_succ]
    refine wpAnyH_ready (rs := [43]) (by kernel_rfl) (by simp) ?_
    refine AllReadyH.cons rfl (fun K hK => ?_) AllReadyH.nil
    go_simp
    refine (CE.out _).mono ?_; rintro e v5 ⟨rfl, d5⟩
    go_wp2_with fail
    refine hK.out _ _ ?_ (fun hHeld => ?_)
    · (try dsimp only); exact ⟨(d5.cell (by simp only [World.size_drew]; omega)).trans hHeld.1, (d5.cell (by simp only [World.size_drew]; omega)).trans hHeld.2.1, (d5.cell (by simp only [World.size_drew]; omega)).trans hHeld.2.2.1, (d5.cell (by simp only [World.size_drew]; omega)).trans hHeld.2.2.2⟩
    clear hK K
    try simp only [Act.put, List.getElem_toArray, List.getElem_cons_zero, List.getElem_cons_succ, List.setIfInBounds_toArray, List.set_cons_zero, List.set_cons_succ]
    have d5' : Below w5.heap.size w5 v5 := d4'.trans (below_of_le d5 s4)
    have s5 := d5'.size
    refine wpAnyH_take (i := 44) (v := ?_) rfl (by kernel_rfl) (by kernel_rfl) (by kernel_rfl) (fun _ _ _ h => h) (Or.inl ⟨by rfl, ?_⟩) (by assumption) ?_
    rotate_left
    first | (focus ((intro w hSw; (try dsimp only at hSw); go_simp); (try with_reducible rfl); done)) | fail
    try simp only [Act.put, List.getElem_toArray, List.getElem_cons_zero, List.getElem_cons_succ, List.setIfInBounds_toArray, List.set_cons_zero, List.set_cons_succ]
    refine wpAnyH_take (i := 45) (v := ?_) rfl (by kernel_rfl) (by kernel_rfl) (by kernel_rfl) (fun _ _ _ h => h) (Or.inl ⟨by rfl, ?_⟩) (by assumption) ?_
    rotate_left
    first | (focus ((intro w hSw; (try dsimp only at hSw); go_simp); (try with_reducible rfl); done)) | fail
    try simp only [Act.put, List.getElem_toArray, List.getElem_cons_zero, List.getElem_cons_succ, List.setIfInBounds_toArray, List.set_cons_zero, List.set_cons_succ]
    refine wpAnyH_take (i := 46) (v := ?_) rfl (by kernel_rfl) (by kernel_rfl) (by kernel_rfl) (fun _ _ _ h => h) (Or.inl ⟨by rfl, ?_⟩) (by assumption) ?_
    rotate_left
    first | (focus ((intro w hSw; (try dsimp only at hSw); go_simp); (try with_reducible rfl); done)) | fail
    try simp only [Act.put, List.getElem_toArray, List.getElem_cons_zero, List.getElem_cons_succ, List.setIfInBounds_toArray, List.set_cons_zero, List.set_cons_succ]
    refine wpAnyH_ready (rs := [47]) (by kernel_rfl) (by simp) ?_
    refine AllReadyH.cons rfl (fun K hK => ?_) AllReadyH.nil
    go_simp
    refine (C9.out _).mono ?_; rintro e v6 ⟨rfl, d6⟩
    go_wp2_with fail
    refine hK.out _ _ ?_ (fun hHeld => ?_)
    · (try dsimp only); exact ⟨(d6.cell (by simp only [World.size_drew]; omega)).trans hHeld.1, (d6.cell (by simp only [World.size_drew]; omega)).trans hHeld.2.1, (d6.cell (by simp only [World.size_drew]; omega)).trans hHeld.2.2.1, (d6.cell (by simp only [World.size_drew]; omega)).trans hHeld.2.2.2⟩
    clear hK K
    try simp only [Act.put, List.getElem_toArray, List.getElem_cons_zero, List.getElem_cons_succ, List.setIfInBounds_toArray, List.set_cons_zero, List.set_cons_succ]
    have d6' : Below w5.heap.size w5 v6 := d5'.trans (below_of_le d6 s5)
    refine wpAnyH_take (i := 48) (v := ?_) rfl (by kernel_rfl) (by kernel_rfl) (by kernel_rfl) (fun _ _ _ h => h) (Or.inl ⟨by rfl, ?_⟩) (by assumption) ?_
    rotate_left
    first | (focus ((intro w hSw; (try dsimp only at hSw); go_simp); (try with_reducible rfl); done)) | fail
    try simp only [Act.put, List.getElem_toArray, List.getElem_cons_zero, List.getElem_cons_succ, List.setIfInBounds_toArray, List.set_cons_zero, List.set_cons_succ]
    refine wpAnyH_take (i := 49) (v := ?_) rfl (by kernel_rfl) (by kernel_rfl) (by kernel_rfl) (fun _ _ _ h => h) (Or.inl ⟨by rfl, ?_⟩) (by assumption) ?_
    rotate_left
    first | (focus ((intro w hSw; (try dsimp only at hSw); go_simp); (try with_reducible rfl); done)) | fail
    try simp only [Act.put, List.getElem_toArray, List.getElem_cons_zero, List.getElem_cons_succ, List.setIfInBounds_toArray, List.set_cons_zero, List.set_cons_succ]
    refine wpAnyH_done (by kernel_rfl) ?_ _
    have HF := Lib.hid (HB5.out.trans (below_of_le d6' (by omega)))
    clear d1 d1' d2 d2' d3 d3' d4 d4' d5 d5' d6 d6' m2 m3 hHeld
    go_wp2
    go_ret
    exact ⟨rfl, HF.out⟩
  · rw [decide_eq_false h50]
    go_wp2_with fail
    refine (C9.out _).mono ?_; rintro e w2 ⟨rfl, b2⟩
    have HF := Lib.hid (H2.out.2.2.trans (below_of_le b2 (by omega)))
    clear b2
    go_wp2
    go_ret
    exact ⟨rfl, HF.out⟩
end Go.Proofs.Ytailbppddnegoaa
