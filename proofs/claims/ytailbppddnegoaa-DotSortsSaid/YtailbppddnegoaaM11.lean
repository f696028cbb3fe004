/- Layer 16 (dot): the walk of the law DotSorts. -/
import Derived.Test.YtailbppddnegoaaM10
import Derived.Test.YtailbppddnegoaaO8
import Derived.Test.YtailbppddnegoaaD6
namespace Go.Proofs.Ytailbppddnegoaa
open Go.RowKit
set_option linter.unusedVariables false
set_option maxRecDepth 100000

theorem dotSorts_law (w : World) {v : Value} (hv : IsRecs 3 w v) :
    Calls Try.prog 4 #[v] w fun e w' => e = .returned (.bool true) ∧ Below w.heap.size w w' := by
  obtain ⟨A, c, L, rfl, hlc, hcm, hr, hok⟩ := recs_list hv
  have hcm' : c ≤ 9223372036854775807 := hcm
  have C9 := Lib.hid awake16_any
  by_cases hn : L.length ≤ 100
  · have hr0 := hr
    have hdl := mem_dsort L
    have hdn : (dsort L).length ≤ 1000000 := by
      have h1 := (srt_dsort L).nodup.length_le_of_subset (l₂ := L) (fun x hx => (hdl x).1 hx)
      omega
    have C1 := Lib.hid (fun (W : World) (hW : Ds W w.heap.size A L) (hs : w.heap.size ≤ W.heap.size) => sort_any W w.heap.size A c L hW hs (fun x hx => (hok x hx).ok) (by omega))
    have C2 := Lib.hid (fun (W : World) (hW : Ds W w.heap.size A L) (hs : w.heap.size ≤ W.heap.size) => rsort_any W w.heap.size A c L hW hs (by omega))
    have C3 := Lib.hid (fun (W : World) (B B' : Nat) (A A' : Option Addr) (c c' : Nat) (hr : Ds W B A (dsort L)) (hr' : Ds W B' A' (dsort L)) (h1 : B ≤ W.heap.size) (h2 : B' ≤ W.heap.size) => rsame16_any W B B' A A' c c' (dsort L) (dsort L) hr hr' h1 h2 (by omega))
    have C4 := Lib.hid (fun (W : World) (B B' : Nat) (A A' : Option Addr) (c c' : Nat) (hr : Ds W B A L) (hr' : Ds W B' A' L) (h1 : B ≤ W.heap.size) (h2 : B' ≤ W.heap.size) => rsame16_any W B B' A A' c c' L L hr hr' h1 h2 (by omega))
    have ho := own_e3 w 27 w.heap.size (Nat.le_refl _)
    have hlen := Lib.hid hn
    have hra := hr.alloc (Nat.le_refl _) (.cells #[] 27)
    have hb0 := (Below.refl w.heap.size w).alloc (Nat.le_refl _) (.cells #[] 27)
    obtain ⟨A2, c2, w2, q1, o2, g2, _⟩ := app3 (w.alloc (.cells #[] 27)) w.heap.size _ 0 0 [] ho w.heap.size A L.length c (dts L) hra (dts_one L) (by omega) (by simp)
    have hb2 := hb0.trans (grown_below g2 (by simp) ho.bl_ge)
    rw [Nat.zero_add] at q1 o2
    rw [List.nil_append] at o2
    have H := Lib.hid (And.intro o2 hb2)
    have HR := Lib.hid (hr.below hb2 : Ds w2 w.heap.size A L)
    have Q1 := Lib.hid q1
    simp only [decide_true] at C3 C4
    clear hr hr0 hdl hdn hra hb0 g2 o2 hb2 ho q1 hv hok
    generalize dsort L = D at *
    generalize hN : w.heap.size = N at *
    generalize hl : L.length = n at *
    have HL := Lib.hid hl
    clear hl
    have hN2 : N ≤ w2.heap.size := by have := H.out.2.size; omega
    go_enter Try.func4, Try.ntmps4
    go_wp2_with (at_builtin; refine wpList_want (by rfl) (fun K hK => wp_append_runs _ _ _ _ _ rfl _ _ rfl rfl _ _ Q1.out (hK _ _ ?_)))
    refine (C1.out _ HR.out hN2).mono ?_; rintro e w3 ⟨A3, c3, rfl, o3, b3⟩
    have hr3 := Lib.hid (HR.out.below (below_of_le b3 hN2))
    have hN3 : N ≤ w3.heap.size := Nat.le_trans hN2 b3.size
    have h3 := Lib.hid (And.intro o3 (And.intro (H.out.1.below b3 (Nat.le_refl _)) (H.out.2.trans (below_of_le b3 hN2))))
    clear o3 b3 H HR C1
    go_wp2_with fail
    refine (C2.out _ hr3.out hN3).mono ?_; rintro e w4 ⟨A4, c4, rfl, o4, b4⟩
    have hr4 := Lib.hid (hr3.out.below (below_of_le b4 hN3))
    have hN4 : N ≤ w4.heap.size := Nat.le_trans hN3 b4.size
    have h4 := Lib.hid (And.intro (h3.out.1.below b4 (Nat.le_refl _)) (And.intro o4 (And.intro (h3.out.2.1.below b4 (Nat.le_refl _)) (h3.out.2.2.trans (below_of_le b4 hN3)))))
    clear o4 b4 h3 hr3 C2
    go_wp2_with fail
    refine (C3.out _ _ _ _ _ _ _ h4.out.1.ds h4.out.2.1.ds (Nat.le_refl _) (Nat.le_refl _)).mono ?_; rintro e w5 ⟨rfl, b5⟩
    have hr5 := Lib.hid (hr4.out.below (below_of_le b5 hN4))
    have hN5 : N ≤ w5.heap.size := Nat.le_trans hN4 b5.size
    have h5 := Lib.hid (And.intro (h4.out.2.2.1.below b5 (Nat.le_refl _)) (h4.out.2.2.2.trans (below_of_le b5 hN4)))
    clear b5 h4 hr4 C3
    go_wp2_with fail
    refine (C4.out _ _ _ _ _ _ _ hr5.out (Own.ds (by rw [HL.out]; exact h5.out.1)) hN5 (Nat.le_refl _)).mono ?_; rintro e w6 ⟨rfl, b6⟩
    have hN6 : N ≤ w6.heap.size := Nat.le_trans hN5 b6.size
    have h6 := Lib.hid (h5.out.2.trans (below_of_le b6 hN5))
    clear b6 h5 hr5 C4
    go_wp2_with fail
    refine (C9.out _).mono ?_; rintro e w7 ⟨rfl, b7⟩
    go_wp2
    go_ret
    exact ⟨rfl, h6.out.trans (below_of_le b7 hN6)⟩
  · have h1 : 100 < L.length := by omega
    generalize L.length = n at *
    clear hn hr hok
    go_enter Try.func4, Try.ntmps4
    go_wp2_with fail
    refine (C9.out _).mono ?_; rintro e w2 ⟨rfl, b2⟩
    go_wp2
    go_ret
    exact ⟨rfl, b2⟩
end Go.Proofs.Ytailbppddnegoaa
