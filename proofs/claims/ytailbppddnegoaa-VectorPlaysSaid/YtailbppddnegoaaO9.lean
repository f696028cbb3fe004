/- The opener of []bool. -/
import Derived.Test.YtailbppddnegoaaO
import Derived.Deep.Slices
import Derived.Deep.Strs
namespace Go.Proofs.Ytailbppddnegoaa
open Go.ChangeShapes Go.WideShapes Go.ChangeAt Go.RowKit Go.Deep
set_option linter.unusedVariables false
set_option maxRecDepth 100000

def bvl (l : List Bool) : List Value := l.map Value.bool
theorem addr_addb (b x y : Nat) : (⟨b, x, none⟩ : Addr).add y = ⟨b, x + y, none⟩ := by by_cases hy : y = 0 <;> simp [Addr.add, hy]
theorem boolsl_of_trod {H : Type} {enc : TypeId × Value → H} {W : World} {fuel : Nat} {cs : List Value} {x : DataW H × List MemPlace}
    (hf : DataW.trod enc Try.prog W 0 (fun _ => true) true fuel 23 cs = some x) : ∃ FA fn fc fl, cs = [.slice FA fn fc] ∧ Rd W W.heap.size 1 FA fn (bvl fl) ∧ fn ≤ fc ∧ fc ≤ maxLen := by
  rcases open_slice Try.underlying23 hf with ⟨hcs, _⟩ | ⟨a, len, cap, m, n', D, Pl, hcs, _, hl, hm, hmm, _, hi⟩
  · exact ⟨none, 0, 0, [], hcs, Rd.nil_, Nat.le_refl _, by simp [maxLen]⟩
  · simp at hmm
    subst hmm
    have hC1 : Try.prog.cellsOf 4 = 1 := by kernel_rfl
    have hF : ∀ i, ∃ b : Bool, i < len → W.cell? (a.add i) = some (.bool b) := by
      intro i
      by_cases hin : i < len
      · obtain ⟨cs', hc, ht'⟩ := hi i (by omega)
        rw [hC1, Nat.mul_one] at hc
        obtain ⟨_, hcl, hat⟩ := World.cells?_some hc
        obtain ⟨b, rfl, _⟩ := DataW.trod_bool Try.underlying4 ht'
        refine ⟨b, fun _ => ?_⟩
        have := hat 0 (by omega)
        have e0 : (a.add i).add 0 = a.add i := by simp [Addr.add]
        rw [e0] at this
        exact this
      · exact ⟨false, fun h => absurd h hin⟩
    obtain ⟨F, hF⟩ := Classical.axiomOfChoice hF
    refine ⟨_, len, _, (List.range len).map F, hcs, ⟨by simp [bvl], fun hn => ?_⟩, hl, hm⟩
    have h0 := hF 0 (by omega)
    obtain ⟨b, off, spot⟩ := a
    have hspot : spot = none := by simpa [Addr.add] using World.cell?_spot h0
    subst hspot
    have hlt : b < W.heap.size := by
      rcases Nat.lt_or_ge b W.heap.size with hlt | hge
      · exact hlt
      · simp [World.cell?, Addr.add, Array.getElem?_eq_none hge] at h0
    refine ⟨b, off, rfl, hlt, fun j u hu => ?_⟩
    have hj : j < len := by
      rcases Nat.lt_or_ge j len with h | h
      · exact h
      · rw [bvl, List.getElem?_eq_none (by simpa using h)] at hu
        cases hu
    have := hF j hj
    rw [addr_addb] at this
    rw [this, ← hu]
    simp [bvl, hj]
/-- What the walk is told of a []bool. -/
def IsBools (w : World) (v : Value) : Prop := ∃ A n c fl, v = .slice A n c ∧ n ≤ c ∧ c ≤ maxLen ∧ Rd w w.heap.size 1 A n (bvl fl)
theorem open_bools {H : Type} {enc : TypeId × Value → H} {W : World} {base : Nat} {v : Value} {d : DataW H} {p : List MemPlace} (hv : Value.okWide Try.prog W .any base 23 v)
    (h : DataW.Trod enc Try.prog W 0 (fun _ => true) true 23 v d p) : IsBools W v := by
  obtain ⟨A, n, c, rfl⟩ := okWide_slice Try.underlying23 hv
  obtain ⟨fuel, hf⟩ := h
  obtain ⟨FA, fn, fc, fl, e, hr, h1, h2⟩ := boolsl_of_trod hf
  simp [Value.cells] at e
  obtain ⟨rfl, rfl, rfl⟩ := e
  exact ⟨_, _, _, fl, rfl, h1, h2, hr⟩
end Go.Proofs.Ytailbppddnegoaa
