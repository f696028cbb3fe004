/- Layer 36 (peers): light, awake; what is short of a table. -/
import Derived.Test.YtailbppddnegoaaR5
import Derived.Test.YtailbppddnegoaaR6
import Derived.Test.YtailbppddnegoaaOW
namespace Go.Proofs.Ytailbppddnegoaa
open Go.RowKit Go.Shelf
set_option linter.unusedVariables false
set_option maxRecDepth 100000
attribute [local go_sem ↓] Go.wp_at_zero Go.wp_at_succ

/-- Are words few and short? -/
def lightB (Ws : List Wd) : Bool := decide (Ws.length ≤ 30) && Ws.all fun x => decide (x.L.length ≤ 50)
theorem lightB_iff {Ws : List Wd} : lightB Ws = true ↔ Ws.length ≤ 30 ∧ ∀ x ∈ Ws, x.L.length ≤ 50 := by
  unfold lightB
  rw [Bool.and_eq_true, decide_eq_true_eq, List.all_eq_true]
  simp
theorem light36_any (w : World) (A : Option Addr) (c : Nat) (Ws : List Wd) (h : WsAt w A Ws) (hn : Ws.length ≤ 9223372036854775807) :
    Calls Try.prog 48 #[.slice A Ws.length c] w fun e w' => e = .returned (.bool (lightB Ws)) ∧ Below w.heap.size w w' := by
  have HW := Lib.hid h
  have B0 := Lib.hid (Below.refl w.heap.size w)
  by_cases h30 : Ws.length ≤ 30
  · have HE := Lib.hid (show lightB Ws = Ws.all fun x => decide (x.L.length ≤ 50) by unfold lightB; simp [h30])
    generalize hN : w.heap.size = N at *
    generalize hlen : Ws.length = n at *
    have HL := Lib.hid hlen
    clear hlen h
    go_enter Try.func48, Try.ntmps48
    go_wp2
    go_loopw [3] (fun i wr => ∃ j : Nat, j ≤ n ∧ i = .int .i64 j ∧ (∀ x ∈ Ws.take j, x.L.length ≤ 50) ∧ Below N w wr) (fun i _ => n - (intOf i).toNat)
    case atStart => exact ⟨0, by omega, rfl, by simp, B0.out⟩
    case round =>
      obtain ⟨j, hj, rfl, hall, hb⟩ := hrel
      have HI := Lib.hid (And.intro hall hb)
      clear hall hb
      by_cases hlt : j < n
      · obtain ⟨x, hx⟩ : ∃ x, Ws[j]? = some x := ⟨Ws[j]'(by have := HL.out; omega), List.getElem?_eq_getElem _⟩
        obtain ⟨b0, o0, hA, hb0, k0, k1⟩ := (HW.out.up (hN ▸ HI.out.2 : Below w.heap.size w wr)).at_ hx
        subst hA
        by_cases hl : x.L.length ≤ 50
        · have HX := Lib.hid (show ∀ y ∈ Ws.take (j + 1), y.L.length ≤ 50 from fun y hy => by
            rw [List.take_add_one, hx] at hy
            rcases List.mem_append.1 hy with hy | hy
            · exact HI.out.1 y hy
            · simp at hy; subst hy; exact hl)
          generalize x.L.length = xl at *
          clear hx
          go_wp2
          go_roundw
          case rel => exact ⟨j + 1, by omega, by go_num, HX.out, HI.out.2⟩
          case measure => simp [intOf]; omega
        · have HX := Lib.hid (show (Ws.all fun x => decide (x.L.length ≤ 50)) = false from List.all_eq_false.2 ⟨x, List.mem_of_getElem? hx, by simpa using hl⟩)
          generalize x.L.length = xl at *
          clear hx
          go_wp2
          go_ret
          exact ⟨(by rw [HE.out, HX.out]; rfl), HI.out.2⟩
      · have hj' : j = n := by omega
        subst hj'
        have HX := Lib.hid (show (Ws.all fun x => decide (x.L.length ≤ 50)) = true from List.all_eq_true.2 fun x hx => by
          have := HI.out.1 x (by rw [List.take_of_length_le (by have := HL.out; omega)]; exact hx)
          simpa using this)
        go_wp2
        go_ret
        exact ⟨(by rw [HE.out, HX.out]; rfl), HI.out.2⟩
  · have HE := Lib.hid (show lightB Ws = false by unfold lightB; simp [h30])
    generalize Ws.length = n at *
    clear h
    go_enter Try.func48, Try.ntmps48
    go_wp2
    go_ret
    exact ⟨(by rw [HE.out]; rfl), B0.out⟩
theorem pteven_no (w : World) (p : Option Addr) (Al : Option Addr) (cl : Nat) (L : List Dt) (hr : MsAt w Al L) (hn : L.length ≤ 9223372036854775807) (hp : p = none ∨ (chkE L ≠ 0 ∧ ∃ t, p = some ⟨t, 0, none⟩)) :
    Calls Try.prog 68 #[.pointer p, .slice Al L.length cl] w fun e w' => e = .returned (.bool false) ∧ Below w.heap.size w w' := by
  have CF := Lib.hid (fun W (hr : MsAt W Al L) => (callsIn_wide (n := 8)).2 (vcof_weak W Al cl L hr hn))
  have HR := Lib.hid hr
  clear hr
  refine (callsIn_wide (n := 9)).1 ?_
  generalize hN : w.heap.size = N at *
  generalize hnl : L.length = nl at *
  generalize chkE L = r at *
  refine callsIn_of_wp_marks Try.func68 rfl trivial ?_ rfl
  simp only [Try.ntmps68, List.size_toArray, List.length_cons, List.length_nil, Nat.reduceAdd, Nat.reduceSub, Array.replicate_succ, Array.replicate_zero, List.push_toArray, List.append_toArray, List.nil_append, List.cons_append]
  have H0 := Lib.hid (show Whole ((w.alloc (.cells #[.pointer p] 62)).alloc (.cells #[.bool false] 4)) N 62 #[.pointer p] ∧ Whole ((w.alloc (.cells #[.pointer p] 62)).alloc (.cells #[.bool false] 4)) (N + 1) 4 #[.bool false] ∧ Below N w ((w.alloc (.cells #[.pointer p] 62)).alloc (.cells #[.bool false] 4)) from by
    refine ⟨?_, ?_, ((Below.refl N w).alloc (by omega) _).alloc (by simp; omega) _⟩
    · have := (Whole.new w 62 #[.pointer p]).alloc (.cells #[.bool false] 4)
      rw [hN] at this
      exact this
    · have := Whole.new (w.alloc (.cells #[.pointer p] 62)) 4 #[.bool false]
      simp only [World.size_alloc] at this
      rw [hN] at this
      exact this)
  gi_wp2
  generalize ((w.alloc (.cells #[.pointer p] 62)).alloc (.cells #[.bool false] 4)) = W0 at *
  refine ⟨trivial, ?_⟩
  refine (CF.out _ (HR.out.up (hN ▸ H0.out.2.2))).mono ?_; rintro e w1 ⟨⟨pv, rfl⟩, b1⟩
  have hz0 : N + 1 < W0.heap.size := H0.out.2.1.lt
  have H1 := Lib.hid (And.intro ((H0.out.1.below b1 (by omega)).alloc (.cells #[.pointer pv] 29)) (And.intro ((H0.out.2.1.below b1 hz0).alloc (.cells #[.pointer pv] 29)) ((H0.out.2.2.trans (below_of_le b1 (by omega))).alloc (by have := b1.size; omega) (.cells #[.pointer pv] 29))))
  clear b1 H0 CF
  have cN2 := H1.out.1.cell 0
  have cR2 := H1.out.2.1.cell 0
  have fR2 := H1.out.2.1.free 0
  change _ = some (Value.pointer p) at cN2
  change _ = some (Value.bool false) at cR2
  generalize hz1 : w1.heap.size = z1 at *
  have H2 := Lib.hid (show Whole ((w1.alloc (.cells #[.pointer pv] 29)).setCell ⟨N + 1, 0, none⟩ (.bool false)) (N + 1) 4 #[.bool false] ∧ Below N w ((w1.alloc (.cells #[.pointer pv] 29)).setCell ⟨N + 1, 0, none⟩ (.bool false)) from ⟨H1.out.2.1.set_ 0 _, H1.out.2.2.setCell (by simp only; omega) _⟩)
  have cR3 := H2.out.1.cell 0
  change _ = some (Value.bool false) at cR3
  rcases hp with rfl | ⟨hc, t, rfl⟩
  · gi_wp2
    exact ⟨.bool false, by simp [results, Try.results68, go_sem, cR3], rfl, H2.out.2⟩
  · have hz' : (r != 0) = true := by simpa using hc
    gi_wp2
    exact ⟨.bool false, by simp [results, Try.results68, go_sem, cR3], rfl, H2.out.2⟩
theorem pteven_any (w : World) (t : Nat) (own : Int) (A : Option Addr) (c : Nat) (Vs : List Vn) (h : TabIs w t own A c Vs) (Al : Option Addr) (cl : Nat) (L : List Dt) (hr : MsAt w Al L) (hn : L.length ≤ 9223372036854775807) :
    Calls Try.prog 68 #[.pointer (some ⟨t, 0, none⟩), .slice Al L.length cl] w fun e w' => e = .returned (.bool (decide (chkE L = 0) && evenTo own (tabK Vs) L Vs.length)) ∧ Below w.heap.size w w' := by
  by_cases hc : chkE L = 0
  · rw [decide_eq_true hc, Bool.true_and]
    exact pteven_yes w t own A c Vs h Al cl L hr hn hc
  · rw [decide_eq_false hc, Bool.false_and]
    exact pteven_no w _ Al cl L hr hn (.inr ⟨hc, t, rfl⟩)
end Go.Proofs.Ytailbppddnegoaa
