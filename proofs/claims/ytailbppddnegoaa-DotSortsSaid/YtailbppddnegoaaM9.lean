/- Layer 16, the document's lists of dots: Has, Same; the openers of []api.Dot, []api.Mark as lists. -/
import Derived.Test.YtailbppddnegoaaM8
import Derived.Test.YtailbppddnegoaaD3
namespace Go.Proofs.Ytailbppddnegoaa
open Go.RowKit
set_option linter.unusedVariables false
set_option maxRecDepth 100000

theorem four (x1 x2 x3 d1 d2 d3 : Int) : (x1 = d1 ∧ x2 = d2 ∧ x3 = d3) ∨ (x1 ≠ d1 ∨ (x1 = d1 ∧ x2 ≠ d2) ∨ (x1 = d1 ∧ x2 = d2 ∧ x3 ≠ d3)) := by omega
theorem rhas_any (w : World) (B : Nat) (A : Option Addr) (c : Nat) (L : List Dt) (d : Dt) (hr : Ds w B A L) (hB : B ≤ w.heap.size) (hn : L.length ≤ 9223372036854775807) :
    Calls Try.prog 47 #[.slice A L.length c, dtV d] w fun e w' => e = .returned (.bool (decide (d ∈ L))) ∧ Below w.heap.size w w' := by
  generalize hlen : L.length = n at *
  have HL := Lib.hid hlen
  have HR := Lib.hid hr
  clear hlen hr
  obtain ⟨⟨d1, d2⟩, d3⟩ := d
  have hW0 := Whole.new w 27 #[.int .i64 d1, .int .i64 d2, .int .i64 d3]
  have hb0 := (Below.refl w.heap.size w).alloc (Nat.le_refl _) (.cells #[.int .i64 d1, .int .i64 d2, .int .i64 d3] 27)
  have H0 := Lib.hid (And.intro hW0 hb0)
  clear hW0 hb0
  generalize hN : w.heap.size = N at *
  unfold dtV
  go_enter Try.func47, Try.ntmps47
  go_wp2_with fail
  generalize (w.alloc (.cells #[.int .i64 d1, .int .i64 d2, .int .i64 d3] 27)) = W0 at *
  go_loopw [5] (fun i wr => ∃ j : Nat, j ≤ n ∧ i = .int .i64 j ∧ ((d1, d2), d3) ∉ L.take j ∧ Whole wr N 27 #[.int .i64 d1, .int .i64 d2, .int .i64 d3] ∧ Below N w wr) (fun i _ => n - (intOf i).toNat)
  case atStart => exact ⟨0, by omega, rfl, by simp, H0.out.1, H0.out.2⟩
  case round =>
    obtain ⟨j, hj, rfl, hno, hW, hb⟩ := hrel
    clear H0
    have HNO := Lib.hid hno
    clear hno
    by_cases hlt : j < n
    · obtain ⟨x, hx⟩ : ∃ x, L[j]? = some x := ⟨L[j]'(by have := HL.out; omega), List.getElem?_eq_getElem _⟩
      obtain ⟨b0, o0, hA, hb0, c0, c1, c2⟩ := (HR.out.below (hb.mono hB)).at_ hx
      have e0 : wr.cell? ⟨N, 0, none⟩ = some (.int .i64 d1) := by rw [hW.cell]; rfl
      have e1 : wr.cell? ⟨N, 1, none⟩ = some (.int .i64 d2) := by rw [hW.cell]; rfl
      have e2 : wr.cell? ⟨N, 2, none⟩ = some (.int .i64 d3) := by rw [hW.cell]; rfl
      have HX := Lib.hid hx
      have HW := Lib.hid (And.intro hW hb)
      clear hx hW hb
      obtain ⟨⟨x1, x2⟩, x3⟩ := x
      simp only at c0 c1 c2
      subst hA
      rcases four x1 x2 x3 d1 d2 d3 with ⟨rfl, rfl, rfl⟩ | he
      · have hin := Lib.hid (decide_eq_true (List.mem_of_getElem? HX.out))
        go_wp2_with fail
        go_region
        go_wp2
        go_ret
        exact ⟨ret_bool hin.out.symm, HW.out.2.drew⟩
      · have hno2 := Lib.hid (show ((d1, d2), d3) ∉ L.take (j + 1) by
          rw [List.take_add_one, HX.out, List.mem_append]
          rintro (h | h)
          · exact HNO.out h
          · simp at h
            rcases he with he | ⟨_, he⟩ | ⟨_, _, he⟩
            · exact he h.1.1.symm
            · exact he h.1.2.symm
            · exact he h.2.symm)
        rcases he with h1 | ⟨h1, h2⟩ | ⟨h1, h2, h3⟩
        all_goals
          go_wp2_with fail
          go_region
          go_wp2
          go_roundw
          case rel => exact ⟨j + 1, by omega, by go_num, hno2.out, HW.out.1.drew, HW.out.2.drew⟩
          case measure => simp [intOf]; omega
    · have hj' : j = n := by omega
      subst hj'
      have hin := Lib.hid (show decide (((d1, d2), d3) ∈ L) = false from decide_eq_false (fun h => HNO.out (by rw [List.take_of_length_le (by have := HL.out; omega)]; exact h)))
      have HB := Lib.hid hb
      clear hW hb
      go_wp2
      go_ret
      exact ⟨ret_bool hin.out.symm, HB.out⟩
theorem rsame16_any (w : World) (B B' : Nat) (A A' : Option Addr) (c c' : Nat) (L M : List Dt) (hr : Ds w B A L) (hr' : Ds w B' A' M) (hB : B ≤ w.heap.size) (hB' : B' ≤ w.heap.size) (hn : L.length ≤ 9223372036854775807) :
    Calls Try.prog 29 #[.slice A L.length c, .slice A' M.length c'] w fun e w' => e = .returned (.bool (decide (L = M))) ∧ Below w.heap.size w w' := by
  by_cases hne : L.length = M.length
  · have HL2 := Lib.hid hne
    rw [← hne]
    generalize hlen : L.length = n at *
    have HL := Lib.hid hlen
    have HR := Lib.hid (And.intro hr hr')
    clear hlen hr hr' hne
    generalize hN : w.heap.size = N at *
    have B0 := Lib.hid (Below.refl N w)
    go_enter Try.func29, Try.ntmps29
    go_wp2_with fail
    go_loopw [5] (fun i wr => ∃ j : Nat, j ≤ n ∧ i = .int .i64 j ∧ L.take j = M.take j ∧ Below N w wr) (fun i _ => n - (intOf i).toNat)
    case atStart => exact ⟨0, by omega, rfl, by simp, B0.out⟩
    case round =>
      obtain ⟨j, hj, rfl, hno, hb⟩ := hrel
      have HNO := Lib.hid hno
      clear hno B0
      by_cases hlt : j < n
      · obtain ⟨x, hx⟩ : ∃ x, L[j]? = some x := ⟨L[j]'(by have := HL.out; omega), List.getElem?_eq_getElem _⟩
        obtain ⟨y, hy⟩ : ∃ y, M[j]? = some y := ⟨M[j]'(by have := HL2.out; omega), List.getElem?_eq_getElem _⟩
        obtain ⟨b0, o0, hA, hb0, c0, c1, c2⟩ := (HR.out.1.below (hb.mono hB)).at_ hx
        obtain ⟨b1, o1, hA', hb1, e0, e1, e2⟩ := (HR.out.2.below (hb.mono hB')).at_ hy
        have HX := Lib.hid (And.intro hx hy)
        have HB := Lib.hid hb
        clear hx hy hb
        obtain ⟨⟨x1, x2⟩, x3⟩ := x
        obtain ⟨⟨y1, y2⟩, y3⟩ := y
        simp only at c0 c1 c2 e0 e1 e2
        subst hA hA'
        rcases four x1 x2 x3 y1 y2 y3 with ⟨rfl, rfl, rfl⟩ | he
        · have hno2 := Lib.hid (show L.take (j + 1) = M.take (j + 1) by
            rw [List.take_add_one, List.take_add_one, HX.out.1, HX.out.2, HNO.out])
          go_wp2_with fail
          go_region
          go_wp2
          go_roundw
          case rel => exact ⟨j + 1, by omega, by go_num, hno2.out, HB.out.drew⟩
          case measure => simp [intOf]; omega
        · have hin := Lib.hid (show decide (L = M) = false from decide_eq_false fun h => by
            subst h
            have := HX.out.1.symm.trans HX.out.2
            simp at this
            rcases he with he | ⟨_, he⟩ | ⟨_, _, he⟩
            · exact he this.1.1
            · exact he this.1.2
            · exact he this.2)
          rcases he with h1 | ⟨h1, h2⟩ | ⟨h1, h2, h3⟩
          all_goals
            go_wp2_with fail
            go_region
            go_wp2
            go_ret
            exact ⟨ret_bool hin.out.symm, HB.out.drew⟩
      · have hj' : j = n := by omega
        subst hj'
        have hin := Lib.hid (show decide (L = M) = true from decide_eq_true (by
          have := HNO.out
          rwa [List.take_of_length_le (by have := HL.out; omega), List.take_of_length_le (by have := HL2.out; omega)] at this))
        have HB := Lib.hid hb
        clear hb
        go_wp2
        go_ret
        exact ⟨ret_bool hin.out.symm, HB.out⟩
  · have hin : decide (L = M) = false := decide_eq_false fun h => hne (by rw [h])
    rw [hin]
    have B0 := Lib.hid (Below.refl w.heap.size w)
    have h1 : ((L.length : Int) == (M.length : Int)) = false := by simp; omega
    clear hr hr' hin
    generalize L.length = n at *
    generalize M.length = m at *
    go_enter Try.func29, Try.ntmps29
    go_wp2
    go_ret
    exact ⟨rfl, B0.out⟩
end Go.Proofs.Ytailbppddnegoaa
