/- Layer 36 (peers): awake. -/
import Derived.Test.YtailbppddnegoaaR7
namespace Go.Proofs.Ytailbppddnegoaa
open Go.RowKit Go.Shelf
set_option linter.unusedVariables false
set_option maxRecDepth 100000
attribute [local go_sem ↓] Go.wp_at_zero Go.wp_at_succ

theorem aw36_1 : chkE [((0, 1), 3)] = 0 := by decide
theorem aw36_2 : chkE [((0, 1), 5)] = 0 := by decide
theorem aw36_3 : heardE 0 2 1 0 = 0 := by decide
theorem aw36_4 : heardK 0 [[], []] 1 [((0, 1), 3)] 0 = [[], [((0, 1), 3)]] := by decide
theorem aw36_5 : stabL 0 [[], [((0, 1), 3)]] [((0, 1), 5)] 0 = [((0, 1), 3)] := by decide
/-- One mark, just laid. -/
theorem ms_one (w : World) (d i s : Int) (t : TypeId) : MsAt (w.alloc (.cells #[.int .i64 d, .int .i64 i, .int .i64 s] t)) (some ⟨w.heap.size, 0, none⟩) [((d, i), s)] := by
  refine ⟨rfl, fun _ => ⟨w.heap.size, 0, rfl, by simp, fun j u hu => ?_⟩⟩
  have hW := Whole.new w t #[.int .i64 d, .int .i64 i, .int .i64 s]
  rw [Nat.zero_add, hW.cell]
  simpa [dts, dtC] using hu
set_option maxHeartbeats 1000000 in
theorem awake36_any (w : World) : Calls Try.prog 49 #[] w fun e w' => e = .returned (.bool true) ∧ Below w.heap.size w w' := by
  have CN := Lib.hid (ptnew_ok w 2 0 (by omega) (by omega) (by omega) (by omega))
  have CH := Lib.hid (fun W t A c (Vs : List Vn) Al (h : TabIs W t 0 A c Vs) (hr : MsAt W Al [((0, 1), 3)]) => (show Calls Try.prog 51 #[.pointer (some ⟨t, 0, none⟩), .int .i64 1, .slice Al 1 1] W (HeardEnd W t 0 A c Vs 1 [((0, 1), 3)]) from ptheard_any W t 0 A c Vs 1 Al 1 [((0, 1), 3)] h hr (by decide)))
  have CS := Lib.hid (fun W t A c (Vs : List Vn) Al (h : TabIs W t 0 A c Vs) (hr : MsAt W Al [((0, 1), 5)]) => (show Calls Try.prog 52 #[.pointer (some ⟨t, 0, none⟩), .slice Al 1 1] W (SomeMs W (stabL 0 (tabK Vs) [((0, 1), 5)] (chkE [((0, 1), 5)]))) from ptstable_any W t 0 A c Vs h Al 1 [((0, 1), 5)] hr (by decide)))
  generalize hN : w.heap.size = N at *
  go_enter Try.func49, Try.ntmps49
  go_wp2_with fail
  refine CN.out.mono ?_; rintro e w1 ⟨t, A, c, Vs, rfl, ht, hT, hK, hlo, b1⟩
  have HT1 := Lib.hid (And.intro hT (And.intro hK (And.intro hlo b1)))
  have hlen : Vs.length = 2 := by rw [← tabK_len, hK]; rfl
  have HLen := Lib.hid hlen
  clear hT hK hlo b1 CN hlen
  have hWa := Whole.new w1 25 #[.int .i64 0, .int .i64 1]
  have k0 := hWa.cell 0
  have k1 := hWa.cell 1
  change _ = some (Value.int .i64 0) at k0
  change _ = some (Value.int .i64 1) at k1
  have H2 := Lib.hid (And.intro hWa (And.intro (HT1.out.1.up (below_alloc_book w1 (.cells #[.int .i64 0, .int .i64 1] 25))) (HT1.out.2.2.2.alloc (by have := HT1.out.2.2.2.size; omega) (.cells #[.int .i64 0, .int .i64 1] 25))))
  clear hWa
  go_wp2_with fail
  have hm := ms_one (w1.alloc (.cells #[.int .i64 0, .int .i64 1] 25)) 0 1 3 33
  simp only [World.size_alloc] at hm
  generalize (w1.alloc (.cells #[.int .i64 0, .int .i64 1] 25)) = W2 at *
  have hz2 : w1.heap.size < W2.heap.size := H2.out.1.lt
  have hN1 : N ≤ w1.heap.size := by have := HT1.out.2.2.2.size; omega
  have bb := below_alloc_book W2 (.cells #[.int .i64 0, .int .i64 1, .int .i64 3] 33)
  have H3 := Lib.hid (And.intro (H2.out.1.below bb hz2) (And.intro (H2.out.2.1.up bb) (And.intro (H2.out.2.2.trans (below_of_le bb (by omega))) hm)))
  have hz3 : W2.heap.size < (W2.alloc (.cells #[.int .i64 0, .int .i64 1, .int .i64 3] 33)).heap.size := by simp
  clear hm bb H2
  generalize (W2.alloc (.cells #[.int .i64 0, .int .i64 1, .int .i64 3] 33)) = W3 at *
  refine (CH.out _ _ _ _ _ _ H3.out.2.1 H3.out.2.2.2).mono ?_
  rintro e w4 ⟨Vs', rfl, hT4, hK4, hb4, ch4⟩
  rw [HLen.out, aw36_1, aw36_3]
  have hlo' : ∀ k, k ∈ Vs.map (·.b) → N ≤ k ∧ k < w1.heap.size := fun k hk => by
    obtain ⟨x, hx, rfl⟩ := List.mem_map.1 hk
    exact ⟨HT1.out.2.2.1 x hx, (HT1.out.1.vec x hx).ltb⟩
  have H4 := Lib.hid (show Whole w4 w1.heap.size 25 #[.int .i64 0, .int .i64 1] ∧ TabIs w4 t 0 A c Vs' ∧ tabK Vs' = [[], [((0, 1), 3)]] ∧ Below N w w4 from by
    refine ⟨H3.out.1.ch ch4 (fun h => by have := (hlo' _ h).2; omega), hT4, ?_, H3.out.2.2.1.trans (ch4.below (fun k hk h => by have := (hlo' k h).1; omega) (by omega))⟩
    rw [hK4, HT1.out.2.1, aw36_1]
    exact aw36_4)
  have hz4 : w1.heap.size < w4.heap.size := H4.out.1.lt
  have k0' := H4.out.1.cell 0
  have k1' := H4.out.1.cell 1
  change _ = some (Value.int .i64 0) at k0'
  change _ = some (Value.int .i64 1) at k1'
  clear hT4 hK4 hb4 ch4 H3 CH
  go_wp2_with fail
  have hm := ms_one w4 0 1 5 33
  have bb := below_alloc_book w4 (.cells #[.int .i64 0, .int .i64 1, .int .i64 5] 33)
  have H5 := Lib.hid (And.intro (H4.out.2.1.up bb) (And.intro (H4.out.2.2.2.trans (below_of_le bb (by omega))) hm))
  clear hm bb
  generalize (w4.alloc (.cells #[.int .i64 0, .int .i64 1, .int .i64 5] 33)) = W5 at *
  refine (CS.out _ _ _ _ _ _ H5.out.1 H5.out.2.2).mono ?_
  rintro e w6 ⟨A6, c6, rfl, m6, b6⟩
  have hst : stabL 0 (tabK Vs') [((0, 1), 5)] (chkE [((0, 1), 5)]) = [((0, 1), 3)] := by rw [H4.out.2.2.1, aw36_2]; exact aw36_5
  rw [hst] at m6 ⊢
  obtain ⟨g, o, hA, hg, c0, c1, c2⟩ := (Ds.at_ (i := 0) m6 (x := ((0, 1), 3)) rfl)
  have hl : ([((0, 1), 3)] : List Dt).length = 1 := rfl
  have H6 := Lib.hid (H5.out.2.1.trans (below_of_le b6 (by have := H5.out.2.1.size; omega)))
  clear c0 c1 m6 b6 hst
  subst hA
  simp only [hl]
  clear hl
  go_wp2
  go_ret
  exact ⟨rfl, H6.out⟩
end Go.Proofs.Ytailbppddnegoaa
