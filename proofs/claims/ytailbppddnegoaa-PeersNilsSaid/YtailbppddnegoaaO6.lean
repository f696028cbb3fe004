/- The openers of slices of structs of whole numbers: []biscottilaw19.Step, []api.Dot. -/
import Derived.Test.YtailbppddnegoaaO
import Derived.Test.YtailbppddnegoaaO5
import Derived.Deep.Slices
import Derived.Deep.Strs
namespace Go.Proofs.Ytailbppddnegoaa
open Go.ChangeShapes Go.WideShapes Go.ChangeAt Go.RowKit Go.Deep
set_option linter.unusedVariables false
set_option maxRecDepth 100000

/-- The slice (A, n) reads as n records of k whole numbers: number j of record i is f i j. -/
def Recs (w : World) (B k : Nat) (A : Option Addr) (n : Nat) (f : Nat → Nat → Int) : Prop :=
  0 < n → ∃ b o, A = some ⟨b, o, none⟩ ∧ b < B ∧ ∀ i, i < n → ∀ j, j < k → w.cell? ⟨b, o + (i * k + j), none⟩ = some (.int .i64 (f i j))
theorem Recs.keep {w w' : World} {B k n : Nat} {A : Option Addr} {f : Nat → Nat → Int} (h : Recs w B k A n f) (hk : ∀ p : Addr, p.block < B → w'.cell? p = w.cell? p) : Recs w' B k A n f := fun hn => by
  obtain ⟨b, o, e, hb, hc⟩ := h hn
  exact ⟨b, o, e, hb, fun i hi j hj => (hk _ hb).trans (hc i hi j hj)⟩
theorem Recs.below {w w' : World} {B k n : Nat} {A : Option Addr} {f : Nat → Nat → Int} (h : Recs w B k A n f) (hb : Below B w w') : Recs w' B k A n f := h.keep fun _ hp => hb.cell hp
/-- What the walk is told of a slice of such records. -/
def IsRecs (k : Nat) (w : World) (v : Value) : Prop := ∃ A n c f, v = .slice A n c ∧ n ≤ c ∧ c ≤ maxLen ∧ Recs w w.heap.size k A n f ∧ ∀ i j, i64B (f i j)
theorem open_recs {H : Type} {enc : TypeId × Value → H} {W : World} {base : Nat} {v : Value} {d : DataW H} {p : List MemPlace} {P : Program} {t e : TypeId} {k : Nat} (ht : P.underlying t = some (.slice e)) (hC : P.cellsOf e = k) (hk : 0 < k)
    (hel : ∀ fuel cs x, DataW.trod enc P W 0 (fun _ => true) true fuel e cs = some x → ∃ f : List Int, cs = f.map (Value.int .i64) ∧ f.length = k ∧ ∀ z ∈ f, i64B z)
    (hv : Value.okWide P W .any base t v) (h : DataW.Trod enc P W 0 (fun _ => true) true t v d p) : IsRecs k W v := by
  obtain ⟨A, n, c, rfl⟩ := okWide_slice ht hv
  obtain ⟨fuel, hf⟩ := h
  rcases open_slice ht hf with ⟨hcs, _⟩ | ⟨a, len, cap, m, n', D, Pl, hcs, _, hl, hm, hmm, _, hi⟩
  · simp [Value.cells] at hcs
    obtain ⟨rfl, rfl, rfl⟩ := hcs
    exact ⟨none, 0, 0, fun _ _ => 0, rfl, Nat.le_refl _, by simp [maxLen], fun h => absurd h (by omega), fun _ _ => by unfold i64B; simp⟩
  · simp [Value.cells] at hcs
    obtain ⟨rfl, rfl, rfl⟩ := hcs
    simp at hmm
    subst hmm
    have hF : ∀ i, ∃ fl : List Int, (i < n → fl.length = k ∧ ∀ j, j < k → W.cell? ((a.add (i * k)).add j) = some (.int .i64 (fl.getD j 0))) ∧ ∀ z ∈ fl, i64B z := by
      intro i
      by_cases hin : i < n
      · obtain ⟨cs', hc, ht'⟩ := hi i (by omega)
        rw [hC] at hc
        obtain ⟨_, hcl, hat⟩ := World.cells?_some hc
        obtain ⟨fl, rfl, hlen, hw⟩ := hel _ _ _ ht'
        refine ⟨fl, fun _ => ⟨hlen, fun j hj => ?_⟩, hw⟩
        rw [hat j hj, List.getElem?_map, List.getElem?_eq_getElem (by omega)]
        simp [List.getD, List.getElem?_eq_getElem (show j < fl.length by omega)]
      · exact ⟨[], fun h => absurd h hin, by simp⟩
    obtain ⟨F, hF⟩ := Classical.axiomOfChoice hF
    refine ⟨_, n, _, fun i j => (F i).getD j 0, rfl, hl, hm, fun hn => ?_, fun i j => ?_⟩
    · have h0 := ((hF 0).1 hn).2 0 hk
      obtain ⟨b, off, spot⟩ := a
      have hspot : spot = none := by simpa [Addr.add] using World.cell?_spot h0
      subst hspot
      have hlt : b < W.heap.size := by
        rcases Nat.lt_or_ge b W.heap.size with hlt | hge
        · exact hlt
        · simp [World.cell?, Addr.add, Array.getElem?_eq_none hge] at h0
      refine ⟨b, off, rfl, hlt, fun i hi' j hj => ?_⟩
      have h1 := ((hF i).1 hi').2 j hj
      have e0 : ((⟨b, off, none⟩ : Addr).add (i * k)).add j = ⟨b, off + (i * k + j), none⟩ := by
        have ha : ∀ (x y : Nat), (⟨b, x, none⟩ : Addr).add y = ⟨b, x + y, none⟩ := fun x y => by by_cases hy : y = 0 <;> simp [Addr.add, hy]
        rw [ha, ha, Nat.add_assoc]
      rw [e0] at h1
      exact h1
    · have hw := (hF i).2
      by_cases hj : j < (F i).length
      · simp only [List.getD, List.getElem?_eq_getElem hj, Option.getD_some]
        exact hw _ (List.getElem_mem hj)
      · simp only [List.getD, List.getElem?_eq_none (by omega : (F i).length ≤ j), Option.getD_none]
        unfold i64B
        omega
theorem open_dots {H : Type} {enc : TypeId × Value → H} {W : World} {base : Nat} {v : Value} {d : DataW H} {p : List MemPlace} (hv : Value.okWide Try.prog W .any base 43 v)
    (h : DataW.Trod enc Try.prog W 0 (fun _ => true) true 43 v d p) : IsRecs 3 W v := by
  refine open_recs Try.underlying43 (by kernel_rfl) (by omega) (fun fuel cs x hx => ?_) hv h
  obtain ⟨a, b, c, rfl, ha, hb, hc⟩ := dot_of_trod hx
  exact ⟨[a, b, c], rfl, rfl, by simp; exact ⟨ha, hb, hc⟩⟩
/-- The opener of an api.Stamp. -/
def IsStamp (v : Value) : Prop := ∃ d i s : Int, v = .agg #[.int .i64 d, .int .i64 i, .int .i64 s] ∧ i64B d ∧ i64B i ∧ i64B s
end Go.Proofs.Ytailbppddnegoaa
