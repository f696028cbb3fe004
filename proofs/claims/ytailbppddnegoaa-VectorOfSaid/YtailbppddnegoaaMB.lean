/- Merged: M7, M8, M9. -/
import Derived.Test.YtailbppddnegoaaMA
import Derived.WideKeyEntry
import Derived.Test.YtailbppddnegoaaM5
import Derived.Test.YtailbppddnegoaaQQ
import Derived.Test.YtailbppddnegoaaSS
import Derived.Test.YtailbppddnegoaaDD
/- 'm[k]++' on a map of whole numbers: the entry taken, its number stored. -/
namespace Go.Proofs.Ytailbppddnegoaa
open Go.RowKit Go.ChangeMaps
set_option linter.unusedVariables false
set_option maxRecDepth 100000

section
variable {α : Type} {P : Program} {k e : TypeId} {kV : α → Value} {ok : α → Prop} {w : World} {b : Nat} {W : List (α × Int)}
theorem setBlock_at {w : World} {b : Nat} (o : Obj) (h : b < w.heap.size) : (ChangeMaps.setBlock w b o).heap[b]? = some o := by
  simp [ChangeMaps.setBlock, h]
theorem setBlock_grown (w : World) (b : Nat) (o : Obj) : w.grownBy (ChangeMaps.setBlock w b o) (some b) :=
  ⟨rfl, rfl, rfl, by simp [ChangeMaps.setBlock], fun i _ hi => by
    have : b ≠ i := fun e => hi (by rw [e])
    simp [ChangeMaps.setBlock, this]⟩
theorem MapIs.entry [DecidableEq α] (K : KeyT P k kV ok) (KL : WideMaps.KeyLaw P k) (h : MapIs P k e kV ok w b W) {t : TypeId} (ht : P.underlying t = some (.map k e)) (he : P.underlying e = some (.int .i64)) (hz : ∀ u : World, (zeroValue e).run P u = .ok (.int .i64 0) u) (hn : W.length < maxLen) {a : α} (ha : ok a) :
    ∃ (v0 : Value) (st : Nat) (w1 : World), (Instr.mapEntry t (.map (some b)) (kV a)).run P w = .ok (.tuple #[v0, goInt st]) w1 ∧ w.grownBy w1 (some b) ∧ (∃ W1, MapIs P k e kV ok w1 b W1 ∧ mget W1 a = mget W a) ∧
      ∀ (w2 : World) (n : Int), w2.heap[b]? = w1.heap[b]? → (Lit.int .i64 n).wf = true → ∃ w3, (Instr.entryStore t (.map (some b)) (goInt st) (.int .i64 n)).run P w2 = .ok () w3 ∧ w2.grownBy w3 (some b) ∧
        ∀ W' : List (α × Int), W'.Perm ((a, n) :: W.filter fun p => decide (p.1 ≠ a)) → MapIs P k e kV ok w3 b W' := by
  obtain ⟨es, clock, hb, F, hs, hD⟩ := h.1
  have hlt : b < w.heap.size := h.lt
  obtain ⟨v0, st, es1, clock1, hrun, _, hst⟩ := WideElems.entry_then_store KL ht hz hb F (K.klit ha)
  refine ⟨v0, st, _, hrun, setBlock_grown _ _ _, ?_, fun w2 n hw2 hwf => ?_⟩
  · rcases KL.find w (K.klit ha) es.toList F.keys with ⟨h1, h2⟩ | ⟨j, e0, h1, h2, h3⟩
    · have r1 : (Instr.mapEntry t (.map (some b)) (kV a)).run P w = .ok (.tuple #[.int .i64 0, goInt clock]) (ChangeMaps.setBlock w b (.map (es.push ⟨kV a, .int .i64 0, clock⟩) (clock + 1))) := by
        simp [Instr.mapEntry, run_underlying ht, MapKept.run_getObj_map hb, KL.check w false (K.klit ha), h1, hz, MapKept.run_setObj_map _ hb, Result.andThen, ChangeMaps.setBlock]
      have r2 : (Instr.mapUpdate t (.map (some b)) (kV a) (.int .i64 0)).run P w = .ok () (ChangeMaps.setBlock w b (.map (es.push ⟨kV a, .int .i64 0, clock⟩) (clock + 1))) := by
        simp [Instr.mapUpdate, run_underlying ht, MapKept.run_getObj_map hb, KL.check w false (K.klit ha), h1, MapKept.run_setObj_map _ hb, Result.andThen, ChangeMaps.setBlock]
      obtain ⟨w', r3, hm, _⟩ := h.update K ht he hn ha (n := 0) (by decide) (List.Perm.refl _)
      rw [r2] at r3
      rw [hrun] at r1
      injection r1 with _ r1
      injection r3 with _ r3
      rw [r1, r3]
      refine ⟨_, hm, ?_⟩
      have hl := h.lookup K ht he (hz w) ha
      have hl2 : (Instr.lookup t (.map (some b)) (kV a) false).run P w = .ok (.int .i64 0) w := by
        simp [Instr.lookup, run_underlying ht, MapKept.run_getObj_map hb, KL.check w es.isEmpty (K.klit ha), h1, hz, Result.andThen]
      rw [hl2] at hl
      injection hl with hl
      injection hl with _ hl
      rw [← hl]
      simp [mget]
    · have hj : es[j]? = some e0 := by simpa using h2
      have hsame : es.modify j (fun e => { e with key := kV a }) = es := by
        apply Array.ext'
        rw [Array.toList_modify, modify_eq_set _ _ _ _ h2]
        have : ({ e0 with key := kV a } : MapEntry) = e0 := by rw [← h3]
        rw [this]
        exact WideElems.set_self _ _ _ h2
      have r1 : (Instr.mapEntry t (.map (some b)) (kV a)).run P w = .ok (.tuple #[e0.val, goInt e0.born]) (ChangeMaps.setBlock w b (.map es clock)) := by
        simp [Instr.mapEntry, run_underlying ht, MapKept.run_getObj_map hb, KL.check w false (K.klit ha), h1, hj, h3, KL.stays w (K.klit ha), hsame, MapKept.run_setObj_map _ hb, Result.andThen, ChangeMaps.setBlock]
      rw [hrun] at r1
      injection r1 with _ r1
      rw [r1]
      exact ⟨W, h.block (by rw [setBlock_at _ hlt, hb]), rfl⟩
  · obtain ⟨es', clock', r1, r2⟩ := hst w2 (.int .i64 n) (hw2.trans (setBlock_at _ hlt))
    refine ⟨_, r1, setBlock_grown _ _ _, fun W' hp => ?_⟩
    obtain ⟨w', r3, hm, _⟩ := h.update K ht he hn ha hwf hp
    rw [r2] at r3
    injection r3 with _ r3
    subst r3
    have hlt2 : b < w2.heap.size := by
      have := hw2.trans (setBlock_at (.map es1 clock1) hlt)
      exact (Array.getElem?_eq_some_iff.1 this).1
    exact hm.block (by rw [setBlock_at _ hlt2, setBlock_at _ hlt])
end
theorem actor_law : WideMaps.KeyLaw Try.prog 25 := deep_law_laid laidOutK (m := 3) (by omega) (of_decide_eq_true (by kernel_rfl)) (by kernel_rfl) actor_wide
theorem dot_law : WideMaps.KeyLaw Try.prog 27 := deep_law_laid laidOutK (m := 3) (by omega) (of_decide_eq_true (by kernel_rfl)) (by kernel_rfl) dot_wide
end Go.Proofs.Ytailbppddnegoaa
/- Layer 16 (dot): Sort. -/
namespace Go.Proofs.Ytailbppddnegoaa
open Go.RowKit
set_option linter.unusedVariables false
set_option maxRecDepth 100000

/-- The keys of a map that counts are the dots that came. -/
def Cnt (L : List Dt) (j : Nat) (W : List (Dt × Int)) : Prop := W.length ≤ j ∧ (∀ x, x ∈ W.map (·.1) ↔ x ∈ L.take j) ∧ ∀ p ∈ W, 0 ≤ p.2 ∧ p.2 ≤ j
theorem Cnt.get {L : List Dt} {j : Nat} {W : List (Dt × Int)} (h : Cnt L j W) (x : Dt) : 0 ≤ mget W x ∧ mget W x ≤ j := by
  induction W with
  | nil => exact ⟨Int.le_refl 0, by show (0 : Int) ≤ j; omega⟩
  | cons p r ih =>
    unfold mget
    split
    · exact h.2.2 p (List.mem_cons_self ..)
    · have hr : ∀ q ∈ r, 0 ≤ q.2 ∧ q.2 ≤ (j : Int) := fun q hq => h.2.2 q (List.mem_cons_of_mem _ hq)
      clear ih h
      induction r with
      | nil => exact ⟨Int.le_refl 0, by show (0 : Int) ≤ j; omega⟩
      | cons q s ih =>
        unfold mget
        split
        · exact hr q (List.mem_cons_self ..)
        · exact ih fun q hq => hr q (List.mem_cons_of_mem _ hq)
theorem Cnt.step {L : List Dt} {j : Nat} {W : List (Dt × Int)} {x : Dt} (h : Cnt L j W) (hx : L[j]? = some x) : Cnt L (j + 1) ((x, mget W x + 1) :: W.filter fun p => decide (p.1 ≠ x)) := by
  have hg := h.get x
  refine ⟨?_, fun y => ?_, fun p hp => ?_⟩
  · have := List.length_filter_le (fun p : Dt × Int => decide (p.1 ≠ x)) W
    have := h.1
    simp only [List.length_cons]; omega
  · rw [List.take_add_one, hx, List.mem_append, ← h.2.1]
    rw [Option.toList_some, List.mem_singleton, List.map_cons, List.mem_cons, List.mem_map, List.mem_map]
    constructor
    · rintro (e | ⟨p, hp, e⟩)
      · exact .inr e
      · exact .inl ⟨p, (List.mem_filter.1 hp).1, e⟩
    · rintro (⟨p, hp, e⟩ | e)
      · by_cases hpx : p.1 = x
        · exact .inl (e.symm.trans hpx)
        · exact .inr ⟨p, List.mem_filter.2 ⟨hp, by simpa using hpx⟩, e⟩
      · exact .inl e
  · rcases List.mem_cons.1 hp with rfl | hp
    · simp only; omega
    · have := h.2.2 p (List.mem_filter.1 hp).1
      omega
theorem nodup_perm {α : Type} {l m : List α} (hl : l.Nodup) (hm : m.Nodup) (h : ∀ x, x ∈ l ↔ x ∈ m) : l.Perm m := (List.perm_ext_iff_of_nodup hl hm).2 h
theorem sort_any (w : World) (B : Nat) (A : Option Addr) (c : Nat) (L : List Dt) (hr : Ds w B A L) (hB : B ≤ w.heap.size) (hwf : ∀ x ∈ L, dtOk x) (hn : L.length ≤ 1000000) :
    Calls Try.prog 30 #[.slice A L.length c] w fun e w' => ∃ A' c', e = .returned (.slice A' (dsort L).length c') ∧ Own w' w.heap.size 27 3 A' (dsort L).length c' (dts (dsort L)) ∧ Below w.heap.size w w' := by
  have hLn : L.length = L.length := rfl
  generalize hlen : L.length = n at *
  have HL := Lib.hid hlen
  have HW := Lib.hid hwf
  have HR := Lib.hid hr
  clear hlen hLn hwf hr
  generalize hN : w.heap.size = N at *
  have E0 := Lib.hid (hN ▸ MapIs.made w : MapIs Try.prog 27 3 dtV dtOk (w.alloc (.map #[] 0)) N [])
  have B0 := Lib.hid ((Below.refl N w).alloc (by omega) (.map #[] 0))
  have mk : (Instr.makeMap 122 none).run Try.prog w = .ok (.map (some N)) (w.alloc (.map #[] 0)) := hN ▸ run_makeMap _ _
  go_enter Try.func30, Try.ntmps30
  go_wp2_with fail
  clear mk
  generalize w.alloc (.map #[] 0) = W0 at *
  go_loopw [9] (fun i wr => ∃ (j : Nat) (W : List (Dt × Int)), j ≤ n ∧ i = .int .i64 j ∧ Cnt L j W ∧ MapIs Try.prog 27 3 dtV dtOk wr N W ∧ Below N w wr) (fun i _ => n - (intOf i).toNat)
  case atStart => exact ⟨0, [], by omega, rfl, ⟨by simp, by simp, by simp⟩, E0.out, B0.out⟩
  case round =>
    obtain ⟨j, W, hj, rfl, hC, hM, hb⟩ := hrel
    clear E0 B0
    by_cases hlt : j < n
    · obtain ⟨x, hx⟩ : ∃ x, L[j]? = some x := ⟨L[j]'(by have := HL.out; omega), List.getElem?_eq_getElem _⟩
      have okx : dtOk x := HW.out x (List.mem_of_getElem? hx)
      obtain ⟨b0, o0, hA, hb0, c0, c1, c2⟩ := (HR.out.below (hb.mono hB)).at_ hx
      have hg := hC.get x
      have hC2 := Lib.hid (hC.step hx)
      have hWl : W.length < maxLen := by have := hC.1; simp only [maxLen]; omega
      have hNl : N < wr.heap.size := hM.lt
      obtain ⟨⟨d, i⟩, s⟩ := x
      simp only at c0 c1 c2
      have hM4 := hM.alloc (.cells #[.int .i64 d, .int .i64 i, .int .i64 s] 27)
      have hb4 := hb.alloc (show N ≤ wr.heap.size by omega) (.cells #[.int .i64 d, .int .i64 i, .int .i64 s] 27)
      have hW4 := Whole.new wr 27 #[.int .i64 d, .int .i64 i, .int .i64 s]
      have HH := Lib.hid (And.intro hM4 (And.intro hb4 hW4))
      generalize hq : mget W ((d, i), s) = q at *
      have HQ := Lib.hid hq
      have hw1 : IntKind.i64.wrap (q + 1) = q + 1 := by rw [IntKind.wrap_i64]; omega
      clear hM hb hM4 hb4 hW4 hC hq
      subst hA
      go_wp2_with fail
      obtain ⟨hM4, hb4, hW4⟩ := HH.out
      generalize hP : wr.heap.size = P at *
      clear hP HH
      generalize (wr.alloc (.cells #[.int .i64 d, .int .i64 i, .int .i64 s] 27)) = W4 at *
      have b0 : W4.cell? ⟨P, 0, none⟩ = some (.int .i64 d) := by rw [hW4.cell]; rfl
      have b1 : W4.cell? ⟨P, 1, none⟩ = some (.int .i64 i) := by rw [hW4.cell]; rfl
      have b2 : W4.cell? ⟨P, 2, none⟩ = some (.int .i64 s) := by rw [hW4.cell]; rfl
      have hwf : (Lit.int .i64 (q + 1)).wf = true := wf_of (by omega) (by omega)
      obtain ⟨v0, st, w1, q2, g1, ⟨W1, hM1, hq1⟩, hst⟩ := (hM4.drew).entry dot_key dot_law Try.underlying122 Try.underlying3 Try.zeroValue3 hWl okx
      have q1 := (hM4.drew).lookup dot_key Try.underlying122 Try.underlying3 (Try.zeroValue3 _) okx
      have q3 := hM1.lookup dot_key Try.underlying122 Try.underlying3 (Try.zeroValue3 _) okx
      obtain ⟨w3, q4, g3, hM3⟩ := hst w1 (q + 1) rfl hwf
      rw [hq1] at q3
      rw [HQ.out] at q1 q3
      have hN4 : N ≤ W4.heap.size := by have := hb4.size; omega
      have HE := Lib.hid (And.intro (hM3 _ (List.Perm.refl _)) ((hb4.drew.grown g1 hN4 (fun k e => by cases e; exact Nat.le_refl _)).grown g3 (Nat.le_trans hN4 g1.size) (fun k e => by cases e; exact Nat.le_refl _)))
      unfold dtV at q1 q2 q3
      clear hM4 hb4 hW4 hM1 hq1 hst hM3 g1 g3 hwf
      simp only [goInt] at q2 q4
      go_region
      go_wp2
      go_roundw
      case rel => exact ⟨j + 1, _, by omega, by go_num, hC2.out, HE.out.1, HE.out.2⟩
      case measure => simp [intOf]; omega
    · have hj' : j = n := by omega
      subst hj'
      have hk : ∀ x, x ∈ W.map (·.1) ↔ x ∈ dsort L := fun x => by
        rw [hC.2.1, mem_dsort, List.take_of_length_le (by have := HL.out; omega)]
      have hp := nodup_perm hM.2.1 (srt_dsort L).nodup hk
      have hN4 : N ≤ wr.heap.size := by have := hb.size; omega
      have CK := Lib.hid (callsIn_wide.1 (keysC_dot Fence.wide 5 trivial rfl (some N) wr))
      have hc4 : (wr.alloc (.cells #[.map (some N)] 122)).cell? ⟨wr.heap.size, 0, none⟩ = some (.map (some N)) := by rw [(Whole.new wr 122 #[.map (some N)]).cell]; rfl
      have CS := Lib.hid (sortedK_dot wr.heap.size N W (dsort L) (wr.alloc (.cells #[.map (some N)] 122)) (by simp) hc4 (hM.alloc _) (by have := hC.1; omega) (srt_dsort L) hp)
      have hb4 := Lib.hid (hb.alloc hN4 (.cells #[.map (some N)] 122))
      clear hC hM hb hk hp hc4
      go_wp2_with (first
        | (go_at_call 90; refine CK.out.mono ?_; rintro e w1 ⟨rfl, rfl⟩)
        | (go_at_call 89; refine CS.out.mono ?_; rintro e w1 ⟨A', c', rfl, o1, b1⟩))
      go_ret
      exact ⟨A', c', rfl, o1.base_le (by simp; omega), hb4.out.trans (below_of_le b1 (by simp; omega))⟩
end Go.Proofs.Ytailbppddnegoaa
/- Layer 16, the document's lists of dots: Has, Same; the openers of []api.Dot, []api.Mark as lists. -/
namespace Go.Proofs.Ytailbppddnegoaa
open Go.RowKit
set_option linter.unusedVariables false
set_option maxRecDepth 100000

theorem four (x1 x2 x3 d1 d2 d3 : Int) : (x1 = d1 ∧ x2 = d2 ∧ x3 = d3) ∨ (x1 ≠ d1 ∨ (x1 = d1 ∧ x2 ≠ d2) ∨ (x1 = d1 ∧ x2 = d2 ∧ x3 ≠ d3)) := by omega
theorem rhas_any (w : World) (B : Nat) (A : Option Addr) (c : Nat) (L : List Dt) (d : Dt) (hr : Ds w B A L) (hB : B ≤ w.heap.size) (hn : L.length ≤ 9223372036854775807) :
    Calls Try.prog 47 #[.slice A L.length c, dtV d] w fun e w' => e = .returned (.bool (decide (d ∈ L))) ∧ Below w.heap.size w w' := by
  generalize hlen : L.length = n at *
  have HL := Lib.hid hlen
  have HR := Lib.hid hr
  clear hlen hr
  obtain ⟨⟨d1, d2⟩, d3⟩ := d
  have hW0 := Whole.new w 27 #[.int .i64 d1, .int .i64 d2, .int .i64 d3]
  have hb0 := (Below.refl w.heap.size w).alloc (Nat.le_refl _) (.cells #[.int .i64 d1, .int .i64 d2, .int .i64 d3] 27)
  have H0 := Lib.hid (And.intro hW0 hb0)
  clear hW0 hb0
  generalize hN : w.heap.size = N at *
  unfold dtV
  go_enter Try.func47, Try.ntmps47
  go_wp2_with fail
  generalize (w.alloc (.cells #[.int .i64 d1, .int .i64 d2, .int .i64 d3] 27)) = W0 at *
  go_loopw [5] (fun i wr => ∃ j : Nat, j ≤ n ∧ i = .int .i64 j ∧ ((d1, d2), d3) ∉ L.take j ∧ Whole wr N 27 #[.int .i64 d1, .int .i64 d2, .int .i64 d3] ∧ Below N w wr) (fun i _ => n - (intOf i).toNat)
  case atStart => exact ⟨0, by omega, rfl, by simp, H0.out.1, H0.out.2⟩
  case round =>
    obtain ⟨j, hj, rfl, hno, hW, hb⟩ := hrel
    clear H0
    have HNO := Lib.hid hno
    clear hno
    by_cases hlt : j < n
    · obtain ⟨x, hx⟩ : ∃ x, L[j]? = some x := ⟨L[j]'(by have := HL.out; omega), List.getElem?_eq_getElem _⟩
      obtain ⟨b0, o0, hA, hb0, c0, c1, c2⟩ := (HR.out.below (hb.mono hB)).at_ hx
      have e0 : wr.cell? ⟨N, 0, none⟩ = some (.int .i64 d1) := by rw [hW.cell]; rfl
      have e1 : wr.cell? ⟨N, 1, none⟩ = some (.int .i64 d2) := by rw [hW.cell]; rfl
      have e2 : wr.cell? ⟨N, 2, none⟩ = some (.int .i64 d3) := by rw [hW.cell]; rfl
      have HX := Lib.hid hx
      have HW := Lib.hid (And.intro hW hb)
      clear hx hW hb
      obtain ⟨⟨x1, x2⟩, x3⟩ := x
      simp only at c0 c1 c2
      subst hA
      rcases four x1 x2 x3 d1 d2 d3 with ⟨rfl, rfl, rfl⟩ | he
      · have hin := Lib.hid (decide_eq_true (List.mem_of_getElem? HX.out))
        go_wp2_with fail
        go_region
        go_wp2
        go_ret
        exact ⟨ret_bool hin.out.symm, HW.out.2.drew⟩
      · have hno2 := Lib.hid (show ((d1, d2), d3) ∉ L.take (j + 1) by
          rw [List.take_add_one, HX.out, List.mem_append]
          rintro (h | h)
          · exact HNO.out h
          · simp at h
            rcases he with he | ⟨_, he⟩ | ⟨_, _, he⟩
            · exact he h.1.1.symm
            · exact he h.1.2.symm
            · exact he h.2.symm)
        rcases he with h1 | ⟨h1, h2⟩ | ⟨h1, h2, h3⟩
        all_goals
          go_wp2_with fail
          go_region
          go_wp2
          go_roundw
          case rel => exact ⟨j + 1, by omega, by go_num, hno2.out, HW.out.1.drew, HW.out.2.drew⟩
          case measure => simp [intOf]; omega
    · have hj' : j = n := by omega
      subst hj'
      have hin := Lib.hid (show decide (((d1, d2), d3) ∈ L) = false from decide_eq_false (fun h => HNO.out (by rw [List.take_of_length_le (by have := HL.out; omega)]; exact h)))
      have HB := Lib.hid hb
      clear hW hb
      go_wp2
      go_ret
      exact ⟨ret_bool hin.out.symm, HB.out⟩
theorem rsame16_any (w : World) (B B' : Nat) (A A' : Option Addr) (c c' : Nat) (L M : List Dt) (hr : Ds w B A L) (hr' : Ds w B' A' M) (hB : B ≤ w.heap.size) (hB' : B' ≤ w.heap.size) (hn : L.length ≤ 9223372036854775807) :
    Calls Try.prog 29 #[.slice A L.length c, .slice A' M.length c'] w fun e w' => e = .returned (.bool (decide (L = M))) ∧ Below w.heap.size w w' := by
  by_cases hne : L.length = M.length
  · have HL2 := Lib.hid hne
    rw [← hne]
    generalize hlen : L.length = n at *
    have HL := Lib.hid hlen
    have HR := Lib.hid (And.intro hr hr')
    clear hlen hr hr' hne
    generalize hN : w.heap.size = N at *
    have B0 := Lib.hid (Below.refl N w)
    go_enter Try.func29, Try.ntmps29
    go_wp2_with fail
    go_loopw [5] (fun i wr => ∃ j : Nat, j ≤ n ∧ i = .int .i64 j ∧ L.take j = M.take j ∧ Below N w wr) (fun i _ => n - (intOf i).toNat)
    case atStart => exact ⟨0, by omega, rfl, by simp, B0.out⟩
    case round =>
      obtain ⟨j, hj, rfl, hno, hb⟩ := hrel
      have HNO := Lib.hid hno
      clear hno B0
      by_cases hlt : j < n
      · obtain ⟨x, hx⟩ : ∃ x, L[j]? = some x := ⟨L[j]'(by have := HL.out; omega), List.getElem?_eq_getElem _⟩
        obtain ⟨y, hy⟩ : ∃ y, M[j]? = some y := ⟨M[j]'(by have := HL2.out; omega), List.getElem?_eq_getElem _⟩
        obtain ⟨b0, o0, hA, hb0, c0, c1, c2⟩ := (HR.out.1.below (hb.mono hB)).at_ hx
        obtain ⟨b1, o1, hA', hb1, e0, e1, e2⟩ := (HR.out.2.below (hb.mono hB')).at_ hy
        have HX := Lib.hid (And.intro hx hy)
        have HB := Lib.hid hb
        clear hx hy hb
        obtain ⟨⟨x1, x2⟩, x3⟩ := x
        obtain ⟨⟨y1, y2⟩, y3⟩ := y
        simp only at c0 c1 c2 e0 e1 e2
        subst hA hA'
        rcases four x1 x2 x3 y1 y2 y3 with ⟨rfl, rfl, rfl⟩ | he
        · have hno2 := Lib.hid (show L.take (j + 1) = M.take (j + 1) by
            rw [List.take_add_one, List.take_add_one, HX.out.1, HX.out.2, HNO.out])
          go_wp2_with fail
          go_region
          go_wp2
          go_roundw
          case rel => exact ⟨j + 1, by omega, by go_num, hno2.out, HB.out.drew⟩
          case measure => simp [intOf]; omega
        · have hin := Lib.hid (show decide (L = M) = false from decide_eq_false fun h => by
            subst h
            have := HX.out.1.symm.trans HX.out.2
            simp at this
            rcases he with he | ⟨_, he⟩ | ⟨_, _, he⟩
            · exact he this.1.1
            · exact he this.1.2
            · exact he this.2)
          rcases he with h1 | ⟨h1, h2⟩ | ⟨h1, h2, h3⟩
          all_goals
            go_wp2_with fail
            go_region
            go_wp2
            go_ret
            exact ⟨ret_bool hin.out.symm, HB.out.drew⟩
      · have hj' : j = n := by omega
        subst hj'
        have hin := Lib.hid (show decide (L = M) = true from decide_eq_true (by
          have := HNO.out
          rwa [List.take_of_length_le (by have := HL.out; omega), List.take_of_length_le (by have := HL2.out; omega)] at this))
        have HB := Lib.hid hb
        clear hb
        go_wp2
        go_ret
        exact ⟨ret_bool hin.out.symm, HB.out⟩
  · have hin : decide (L = M) = false := decide_eq_false fun h => hne (by rw [h])
    rw [hin]
    have B0 := Lib.hid (Below.refl w.heap.size w)
    have h1 : ((L.length : Int) == (M.length : Int)) = false := by simp; omega
    clear hr hr' hin
    generalize L.length = n at *
    generalize M.length = m at *
    go_enter Try.func29, Try.ntmps29
    go_wp2
    go_ret
    exact ⟨rfl, B0.out⟩
end Go.Proofs.Ytailbppddnegoaa
