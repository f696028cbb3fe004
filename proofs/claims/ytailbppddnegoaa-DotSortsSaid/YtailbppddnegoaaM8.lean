/- Layer 16 (dot): Sort. -/
import Derived.Test.YtailbppddnegoaaM5
import Derived.Test.YtailbppddnegoaaM7
import Derived.Test.YtailbppddnegoaaQS
import Derived.Test.YtailbppddnegoaaE1
namespace Go.Proofs.Ytailbppddnegoaa
open Go.RowKit
set_option linter.unusedVariables false
set_option maxRecDepth 100000

/-- The keys of a map that counts are the dots that came. -/
def Cnt (L : List Dt) (j : Nat) (W : List (Dt × Int)) : Prop := W.length ≤ j ∧ (∀ x, x ∈ W.map (·.1) ↔ x ∈ L.take j) ∧ ∀ p ∈ W, 0 ≤ p.2 ∧ p.2 ≤ j
theorem Cnt.get {L : List Dt} {j : Nat} {W : List (Dt × Int)} (h : Cnt L j W) (x : Dt) : 0 ≤ mget W x ∧ mget W x ≤ j := by
  induction W with
  | nil => exact ⟨Int.le_refl 0, by show (0 : Int) ≤ j; omega⟩
  | cons p r ih =>
    unfold mget
    split
    · exact h.2.2 p (List.mem_cons_self ..)
    · have hr : ∀ q ∈ r, 0 ≤ q.2 ∧ q.2 ≤ (j : Int) := fun q hq => h.2.2 q (List.mem_cons_of_mem _ hq)
      clear ih h
      induction r with
      | nil => exact ⟨Int.le_refl 0, by show (0 : Int) ≤ j; omega⟩
      | cons q s ih =>
        unfold mget
        split
        · exact hr q (List.mem_cons_self ..)
        · exact ih fun q hq => hr q (List.mem_cons_of_mem _ hq)
theorem Cnt.step {L : List Dt} {j : Nat} {W : List (Dt × Int)} {x : Dt} (h : Cnt L j W) (hx : L[j]? = some x) : Cnt L (j + 1) ((x, mget W x + 1) :: W.filter fun p => decide (p.1 ≠ x)) := by
  have hg := h.get x
  refine ⟨?_, fun y => ?_, fun p hp => ?_⟩
  · have := List.length_filter_le (fun p : Dt × Int => decide (p.1 ≠ x)) W
    have := h.1
    simp only [List.length_cons]; omega
  · rw [List.take_add_one, hx, List.mem_append, ← h.2.1]
    rw [Option.toList_some, List.mem_singleton, List.map_cons, List.mem_cons, List.mem_map, List.mem_map]
    constructor
    · rintro (e | ⟨p, hp, e⟩)
      · exact .inr e
      · exact .inl ⟨p, (List.mem_filter.1 hp).1, e⟩
    · rintro (⟨p, hp, e⟩ | e)
      · by_cases hpx : p.1 = x
        · exact .inl (e.symm.trans hpx)
        · exact .inr ⟨p, List.mem_filter.2 ⟨hp, by simpa using hpx⟩, e⟩
      · exact .inl e
  · rcases List.mem_cons.1 hp with rfl | hp
    · simp only; omega
    · have := h.2.2 p (List.mem_filter.1 hp).1
      omega
theorem nodup_perm {α : Type} {l m : List α} (hl : l.Nodup) (hm : m.Nodup) (h : ∀ x, x ∈ l ↔ x ∈ m) : l.Perm m := (List.perm_ext_iff_of_nodup hl hm).2 h
theorem sort_any (w : World) (B : Nat) (A : Option Addr) (c : Nat) (L : List Dt) (hr : Ds w B A L) (hB : B ≤ w.heap.size) (hwf : ∀ x ∈ L, dtOk x) (hn : L.length ≤ 1000000) :
    Calls Try.prog 30 #[.slice A L.length c] w fun e w' => ∃ A' c', e = .returned (.slice A' (dsort L).length c') ∧ Own w' w.heap.size 27 3 A' (dsort L).length c' (dts (dsort L)) ∧ Below w.heap.size w w' := by
  have hLn : L.length = L.length := rfl
  generalize hlen : L.length = n at *
  have HL := Lib.hid hlen
  have HW := Lib.hid hwf
  have HR := Lib.hid hr
  clear hlen hLn hwf hr
  generalize hN : w.heap.size = N at *
  have E0 := Lib.hid (hN ▸ MapIs.made w : MapIs Try.prog 27 3 dtV dtOk (w.alloc (.map #[] 0)) N [])
  have B0 := Lib.hid ((Below.refl N w).alloc (by omega) (.map #[] 0))
  have mk : (Instr.makeMap 122 none).run Try.prog w = .ok (.map (some N)) (w.alloc (.map #[] 0)) := hN ▸ run_makeMap _ _
  go_enter Try.func30, Try.ntmps30
  go_wp2_with fail
  clear mk
  generalize w.alloc (.map #[] 0) = W0 at *
  go_loopw [9] (fun i wr => ∃ (j : Nat) (W : List (Dt × Int)), j ≤ n ∧ i = .int .i64 j ∧ Cnt L j W ∧ MapIs Try.prog 27 3 dtV dtOk wr N W ∧ Below N w wr) (fun i _ => n - (intOf i).toNat)
  case atStart => exact ⟨0, [], by omega, rfl, ⟨by simp, by simp, by simp⟩, E0.out, B0.out⟩
  case round =>
    obtain ⟨j, W, hj, rfl, hC, hM, hb⟩ := hrel
    clear E0 B0
    by_cases hlt : j < n
    · obtain ⟨x, hx⟩ : ∃ x, L[j]? = some x := ⟨L[j]'(by have := HL.out; omega), List.getElem?_eq_getElem _⟩
      have okx : dtOk x := HW.out x (List.mem_of_getElem? hx)
      obtain ⟨b0, o0, hA, hb0, c0, c1, c2⟩ := (HR.out.below (hb.mono hB)).at_ hx
      have hg := hC.get x
      have hC2 := Lib.hid (hC.step hx)
      have hWl : W.length < maxLen := by have := hC.1; simp only [maxLen]; omega
      have hNl : N < wr.heap.size := hM.lt
      obtain ⟨⟨d, i⟩, s⟩ := x
      simp only at c0 c1 c2
      have hM4 := hM.alloc (.cells #[.int .i64 d, .int .i64 i, .int .i64 s] 27)
      have hb4 := hb.alloc (show N ≤ wr.heap.size by omega) (.cells #[.int .i64 d, .int .i64 i, .int .i64 s] 27)
      have hW4 := Whole.new wr 27 #[.int .i64 d, .int .i64 i, .int .i64 s]
      have HH := Lib.hid (And.intro hM4 (And.intro hb4 hW4))
      generalize hq : mget W ((d, i), s) = q at *
      have HQ := Lib.hid hq
      have hw1 : IntKind.i64.wrap (q + 1) = q + 1 := by rw [IntKind.wrap_i64]; omega
      clear hM hb hM4 hb4 hW4 hC hq
      subst hA
      go_wp2_with fail
      obtain ⟨hM4, hb4, hW4⟩ := HH.out
      generalize hP : wr.heap.size = P at *
      clear hP HH
      generalize (wr.alloc (.cells #[.int .i64 d, .int .i64 i, .int .i64 s] 27)) = W4 at *
      have b0 : W4.cell? ⟨P, 0, none⟩ = some (.int .i64 d) := by rw [hW4.cell]; rfl
      have b1 : W4.cell? ⟨P, 1, none⟩ = some (.int .i64 i) := by rw [hW4.cell]; rfl
      have b2 : W4.cell? ⟨P, 2, none⟩ = some (.int .i64 s) := by rw [hW4.cell]; rfl
      have hwf : (Lit.int .i64 (q + 1)).wf = true := wf_of (by omega) (by omega)
      obtain ⟨v0, st, w1, q2, g1, ⟨W1, hM1, hq1⟩, hst⟩ := (hM4.drew).entry dot_key dot_law Try.underlying122 Try.underlying3 Try.zeroValue3 hWl okx
      have q1 := (hM4.drew).lookup dot_key Try.underlying122 Try.underlying3 (Try.zeroValue3 _) okx
      have q3 := hM1.lookup dot_key Try.underlying122 Try.underlying3 (Try.zeroValue3 _) okx
      obtain ⟨w3, q4, g3, hM3⟩ := hst w1 (q + 1) rfl hwf
      rw [hq1] at q3
      rw [HQ.out] at q1 q3
      have hN4 : N ≤ W4.heap.size := by have := hb4.size; omega
      have HE := Lib.hid (And.intro (hM3 _ (List.Perm.refl _)) ((hb4.drew.grown g1 hN4 (fun k e => by cases e; exact Nat.le_refl _)).grown g3 (Nat.le_trans hN4 g1.size) (fun k e => by cases e; exact Nat.le_refl _)))
      unfold dtV at q1 q2 q3
      clear hM4 hb4 hW4 hM1 hq1 hst hM3 g1 g3 hwf
      simp only [goInt] at q2 q4
      go_region
      go_wp2
      go_roundw
      case rel => exact ⟨j + 1, _, by omega, by go_num, hC2.out, HE.out.1, HE.out.2⟩
      case measure => simp [intOf]; omega
    · have hj' : j = n := by omega
      subst hj'
      have hk : ∀ x, x ∈ W.map (·.1) ↔ x ∈ dsort L := fun x => by
        rw [hC.2.1, mem_dsort, List.take_of_length_le (by have := HL.out; omega)]
      have hp := nodup_perm hM.2.1 (srt_dsort L).nodup hk
      have hN4 : N ≤ wr.heap.size := by have := hb.size; omega
      have CK := Lib.hid (callsIn_wide.1 (keysC_dot Fence.wide 5 trivial rfl (some N) wr))
      have hc4 : (wr.alloc (.cells #[.map (some N)] 122)).cell? ⟨wr.heap.size, 0, none⟩ = some (.map (some N)) := by rw [(Whole.new wr 122 #[.map (some N)]).cell]; rfl
      have CS := Lib.hid (sortedK_dot wr.heap.size N W (dsort L) (wr.alloc (.cells #[.map (some N)] 122)) (by simp) hc4 (hM.alloc _) (by have := hC.1; omega) (srt_dsort L) hp)
      have hb4 := Lib.hid (hb.alloc hN4 (.cells #[.map (some N)] 122))
      clear hC hM hb hk hp hc4
      go_wp2_with (first
        | (go_at_call 90; refine CK.out.mono ?_; rintro e w1 ⟨rfl, rfl⟩)
        | (go_at_call 89; refine CS.out.mono ?_; rintro e w1 ⟨A', c', rfl, o1, b1⟩))
      go_ret
      exact ⟨A', c', rfl, o1.base_le (by simp; omega), hb4.out.trans (below_of_le b1 (by simp; omega))⟩
end Go.Proofs.Ytailbppddnegoaa
