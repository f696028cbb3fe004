/- 'm[k]++' on a map of whole numbers: the entry taken, its number stored. -/
import Derived.Test.YtailbppddnegoaaM2
import Derived.WideKeyEntry
namespace Go.Proofs.Ytailbppddnegoaa
open Go.RowKit Go.ChangeMaps
set_option linter.unusedVariables false
set_option maxRecDepth 100000

section
variable {α : Type} {P : Program} {k e : TypeId} {kV : α → Value} {ok : α → Prop} {w : World} {b : Nat} {W : List (α × Int)}
theorem setBlock_at {w : World} {b : Nat} (o : Obj) (h : b < w.heap.size) : (ChangeMaps.setBlock w b o).heap[b]? = some o := by
  simp [ChangeMaps.setBlock, h]
theorem setBlock_grown (w : World) (b : Nat) (o : Obj) : w.grownBy (ChangeMaps.setBlock w b o) (some b) :=
  ⟨rfl, rfl, rfl, by simp [ChangeMaps.setBlock], fun i _ hi => by
    have : b ≠ i := fun e => hi (by rw [e])
    simp [ChangeMaps.setBlock, this]⟩
theorem MapIs.entry [DecidableEq α] (K : KeyT P k kV ok) (KL : WideMaps.KeyLaw P k) (h : MapIs P k e kV ok w b W) {t : TypeId} (ht : P.underlying t = some (.map k e)) (he : P.underlying e = some (.int .i64)) (hz : ∀ u : World, (zeroValue e).run P u = .ok (.int .i64 0) u) (hn : W.length < maxLen) {a : α} (ha : ok a) :
    ∃ (v0 : Value) (st : Nat) (w1 : World), (Instr.mapEntry t (.map (some b)) (kV a)).run P w = .ok (.tuple #[v0, goInt st]) w1 ∧ w.grownBy w1 (some b) ∧ (∃ W1, MapIs P k e kV ok w1 b W1 ∧ mget W1 a = mget W a) ∧
      ∀ (w2 : World) (n : Int), w2.heap[b]? = w1.heap[b]? → (Lit.int .i64 n).wf = true → ∃ w3, (Instr.entryStore t (.map (some b)) (goInt st) (.int .i64 n)).run P w2 = .ok () w3 ∧ w2.grownBy w3 (some b) ∧
        ∀ W' : List (α × Int), W'.Perm ((a, n) :: W.filter fun p => decide (p.1 ≠ a)) → MapIs P k e kV ok w3 b W' := by
  obtain ⟨es, clock, hb, F, hs, hD⟩ := h.1
  have hlt : b < w.heap.size := h.lt
  obtain ⟨v0, st, es1, clock1, hrun, _, hst⟩ := WideElems.entry_then_store KL ht hz hb F (K.klit ha)
  refine ⟨v0, st, _, hrun, setBlock_grown _ _ _, ?_, fun w2 n hw2 hwf => ?_⟩
  · rcases KL.find w (K.klit ha) es.toList F.keys with ⟨h1, h2⟩ | ⟨j, e0, h1, h2, h3⟩
    · have r1 : (Instr.mapEntry t (.map (some b)) (kV a)).run P w = .ok (.tuple #[.int .i64 0, goInt clock]) (ChangeMaps.setBlock w b (.map (es.push ⟨kV a, .int .i64 0, clock⟩) (clock + 1))) := by
        simp [Instr.mapEntry, run_underlying ht, MapKept.run_getObj_map hb, KL.check w false (K.klit ha), h1, hz, MapKept.run_setObj_map _ hb, Result.andThen, ChangeMaps.setBlock]
      have r2 : (Instr.mapUpdate t (.map (some b)) (kV a) (.int .i64 0)).run P w = .ok () (ChangeMaps.setBlock w b (.map (es.push ⟨kV a, .int .i64 0, clock⟩) (clock + 1))) := by
        simp [Instr.mapUpdate, run_underlying ht, MapKept.run_getObj_map hb, KL.check w false (K.klit ha), h1, MapKept.run_setObj_map _ hb, Result.andThen, ChangeMaps.setBlock]
      obtain ⟨w', r3, hm, _⟩ := h.update K ht he hn ha (n := 0) (by decide) (List.Perm.refl _)
      rw [r2] at r3
      rw [hrun] at r1
      injection r1 with _ r1
      injection r3 with _ r3
      rw [r1, r3]
      refine ⟨_, hm, ?_⟩
      have hl := h.lookup K ht he (hz w) ha
      have hl2 : (Instr.lookup t (.map (some b)) (kV a) false).run P w = .ok (.int .i64 0) w := by
        simp [Instr.lookup, run_underlying ht, MapKept.run_getObj_map hb, KL.check w es.isEmpty (K.klit ha), h1, hz, Result.andThen]
      rw [hl2] at hl
      injection hl with hl
      injection hl with _ hl
      rw [← hl]
      simp [mget]
    · have hj : es[j]? = some e0 := by simpa using h2
      have hsame : es.modify j (fun e => { e with key := kV a }) = es := by
        apply Array.ext'
        rw [Array.toList_modify, modify_eq_set _ _ _ _ h2]
        have : ({ e0 with key := kV a } : MapEntry) = e0 := by rw [← h3]
        rw [this]
        exact WideElems.set_self _ _ _ h2
      have r1 : (Instr.mapEntry t (.map (some b)) (kV a)).run P w = .ok (.tuple #[e0.val, goInt e0.born]) (ChangeMaps.setBlock w b (.map es clock)) := by
        simp [Instr.mapEntry, run_underlying ht, MapKept.run_getObj_map hb, KL.check w false (K.klit ha), h1, hj, h3, KL.stays w (K.klit ha), hsame, MapKept.run_setObj_map _ hb, Result.andThen, ChangeMaps.setBlock]
      rw [hrun] at r1
      injection r1 with _ r1
      rw [r1]
      exact ⟨W, h.block (by rw [setBlock_at _ hlt, hb]), rfl⟩
  · obtain ⟨es', clock', r1, r2⟩ := hst w2 (.int .i64 n) (hw2.trans (setBlock_at _ hlt))
    refine ⟨_, r1, setBlock_grown _ _ _, fun W' hp => ?_⟩
    obtain ⟨w', r3, hm, _⟩ := h.update K ht he hn ha hwf hp
    rw [r2] at r3
    injection r3 with _ r3
    subst r3
    have hlt2 : b < w2.heap.size := by
      have := hw2.trans (setBlock_at (.map es1 clock1) hlt)
      exact (Array.getElem?_eq_some_iff.1 this).1
    exact hm.block (by rw [setBlock_at _ hlt2, setBlock_at _ hlt])
end
theorem actor_law : WideMaps.KeyLaw Try.prog 25 := deep_law_laid laidOutK (m := 3) (by omega) (of_decide_eq_true (by kernel_rfl)) (by kernel_rfl) actor_wide
theorem dot_law : WideMaps.KeyLaw Try.prog 27 := deep_law_laid laidOutK (m := 3) (by omega) (of_decide_eq_true (by kernel_rfl)) (by kernel_rfl) dot_wide
end Go.Proofs.Ytailbppddnegoaa
