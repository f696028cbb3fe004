/- The opener of []api.Mark; slices of dots or marks as lists. -/
import Derived.Test.YtailbppddnegoaaO6
import Derived.Test.YtailbppddnegoaaSS
namespace Go.Proofs.Ytailbppddnegoaa
open Go.ChangeShapes Go.WideShapes Go.ChangeAt Go.RowKit Go.Deep
set_option linter.unusedVariables false
set_option maxRecDepth 100000

theorem mark_of_trod {H : Type} {enc : TypeId × Value → H} {W : World} {fuel : Nat} {cs : List Value} {x : DataW H × List MemPlace}
    (hf : DataW.trod enc Try.prog W 0 (fun _ => true) true fuel 33 cs = some x) : ∃ d i s : Int, cs = [.int .i64 d, .int .i64 i, .int .i64 s] ∧ i64B d ∧ i64B i ∧ i64B s := by
  have hC : Try.prog.cellsOf 33 = 3 := by kernel_rfl
  have hCA : Try.prog.cellsOf 25 = 2 := by kernel_rfl
  have hC1 : Try.prog.cellsOf 3 = 1 := by kernel_rfl
  obtain ⟨y0, y1, n, _, hl, h0, h1⟩ := trod_struct2 Try.underlying33 hf
  rw [hC] at hl
  obtain ⟨c0, c1, c2, rfl⟩ : ∃ a b c, cs = [a, b, c] := by
    match cs, hl with
    | [a, b, c], _ => exact ⟨a, b, c, rfl⟩
  simp only [hCA, hC1] at h0 h1
  obtain ⟨z0, z1, n', _, hl', g0, g1⟩ := trod_struct2 Try.underlying25 h0
  simp only [hC1] at g0 g1
  obtain ⟨a, e0, _, w0⟩ := DataW.trod_int Try.underlying3 g0
  obtain ⟨b, e1, _, w1⟩ := DataW.trod_int Try.underlying3 g1
  obtain ⟨c, e2, _, w2⟩ := DataW.trod_int Try.underlying3 h1
  simp at e0 e1 e2
  subst e0 e1 e2
  exact ⟨a, b, c, rfl, bounds_i64 w0, bounds_i64 w1, bounds_i64 w2⟩
theorem open_marks {H : Type} {enc : TypeId × Value → H} {W : World} {base : Nat} {v : Value} {d : DataW H} {p : List MemPlace} (hv : Value.okWide Try.prog W .any base 22 v)
    (h : DataW.Trod enc Try.prog W 0 (fun _ => true) true 22 v d p) : IsRecs 3 W v := by
  refine open_recs Try.underlying22 (by kernel_rfl) (by omega) (fun fuel cs x hx => ?_) hv h
  obtain ⟨a, b, c, rfl, ha, hb, hc⟩ := mark_of_trod hx
  exact ⟨[a, b, c], rfl, rfl, by simp; exact ⟨ha, hb, hc⟩⟩
/-- Whole numbers of a machine. -/
def dB (x : Dt) : Prop := i64B x.1.1 ∧ i64B x.1.2 ∧ i64B x.2
theorem dB.ok {x : Dt} (h : dB x) : dtOk x := ⟨wf_of h.1.1 h.1.2, wf_of h.2.1.1 h.2.1.2, wf_of h.2.2.1 h.2.2.2⟩
theorem dB.act {x : Dt} (h : dB x) : acOk x.1 := ⟨wf_of h.1.1 h.1.2, wf_of h.2.1.1 h.2.1.2⟩
theorem recs_list {w : World} {v : Value} (h : IsRecs 3 w v) : ∃ A c L, v = .slice A L.length c ∧ L.length ≤ c ∧ c ≤ maxLen ∧ Ds w w.heap.size A L ∧ ∀ x ∈ L, dB x := by
  obtain ⟨A, n, c, f, rfl, hnc, hcm, hr, hb⟩ := h
  have hl : ((List.range n).map fun i => (((f i 0, f i 1), f i 2) : Dt)).length = n := by simp
  refine ⟨A, c, (List.range n).map fun i => ((f i 0, f i 1), f i 2), by rw [hl], by rw [hl]; exact hnc, hcm, ?_, ?_⟩
  · refine ⟨dts_len _, fun h0 => ?_⟩
    rw [hl] at h0
    obtain ⟨b, o, hA, hb, hc⟩ := hr (by omega)
    refine ⟨b, o, hA, hb, fun j u hu => ?_⟩
    unfold dts at hu
    rw [flatMap_at dtC 3 dtC_len] at hu
    have hj : j / 3 < n := by
      rcases Nat.lt_or_ge (j / 3) n with h | h
      · exact h
      · rw [List.getElem?_eq_none (by rw [hl]; exact h)] at hu; cases hu
    rw [List.getElem?_map, List.getElem?_range hj] at hu
    have hm : j % 3 = 0 ∨ j % 3 = 1 ∨ j % 3 = 2 := by omega
    have e : j = j / 3 * 3 + j % 3 := by omega
    have hk := hc (j / 3) hj (j % 3) (by omega)
    rw [← e] at hk
    rcases hm with hm | hm | hm
    all_goals
      rw [hm] at hu hk
      simp [dtC] at hu
      rw [hk, hu]
  · intro x hx
    obtain ⟨i, _, rfl⟩ := List.mem_map.1 hx
    exact ⟨hb i 0, hb i 1, hb i 2⟩
end Go.Proofs.Ytailbppddnegoaa
