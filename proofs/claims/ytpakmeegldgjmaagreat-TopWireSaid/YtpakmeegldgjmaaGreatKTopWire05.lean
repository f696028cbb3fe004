/- TopWire: part 5 of what the proof rests on: contracts of functions, and plain laws. -/
import Derived.WalkKit
import Derived.ProofKit
import Derived.OpenShut
import Derived.Handy
import Derived.Outline
import Derived.Lib.Hide
import Derived.Deep.Draws
import Derived.Laws.OwnMore
import Derived.Laws.AppendOwn
import Derived.Laws.AppendOwnNone
import Derived.Laws.BitsAllLaws
import Derived.Laws.Bits64b
import Derived.Lib.AppendZeros
import Derived.Lib.AppendZerosOnto
import Derived.Laws.CopyRow
import Derived.Lib.AppendStr
import Derived.Test.YtpakmeegldgjmaaGreatRows
import Derived.Lib.Zigzag
import Derived.Deep.QuietTactic
import Derived.BigQuiet
import Derived.Deep.LoopGhost
import Derived.BigRegion
import Derived.RegionTactic
import Derived.Deep.WholeRow
import Derived.Deep.Slices
import Derived.Lib.Varint
import Derived.WalkSpells
import Derived.Laws.BytesString
import Derived.Laws.Concat
import Derived.IntWalk
import Derived.Test.YtpakmeegldgjmaaGreatProg
import Derived.Deep.RegionHeld3
import Derived.StillTailTactics
import Derived.Laws.StructEq
import Derived.Lib.SmallJoins
import Derived.Deep.Strs
import Derived.Laws.IdiomStrings
import Derived.Lib.SlBytesConst
import Derived.Deep.RegionWith
import Derived.Maps.Own
import Derived.Maps.OwnSet
import Derived.Maps.Range
import Derived.DeepKeys4
import Derived.ChangeKeysEq
import Derived.DeepKeys2
import Derived.RangeFuncNested
import Derived.RangeFuncBound
import Derived.RangeFuncCalls
import Derived.RangeFuncLeaves
import Derived.Sort.MapsRangeIn
import Derived.OwnWalkIn
import Derived.TacticsInMore
import Derived.RegionIn
import Derived.LoopNIn
import Derived.LoopIn
import Derived.Maps.AppendAt
import Derived.Sort.Grow
import Derived.Shelf.GgSortFunc.InsertionK
import Derived.Shelf.SlSortCmp.NoneTotal
import Derived.WideKeyEntry
import Derived.Deep.CutBlock
import Derived.Deep.CutRange
import Derived.Deep.RegionLaw
import Derived.Deep.DeepCutAuto
import Derived.Deep.DrawnRows
import Derived.WalkLawsBesides
import Derived.Deep.MidRow
import Derived.Laws.Strings2
import Derived.Test.YtpakmeegldgjmaaGreatKTopWire04
/- Layer 20 (event): the document's Right. -/
namespace Go.Proofs.YtpakmeegldgjmaaGreat
open Go.RowKit
set_option linter.unusedVariables false
set_option linter.unusedSimpArgs false
set_option maxRecDepth 100000
attribute [local go_sem ↓] Go.wp_at_zero Go.wp_at_succ
attribute [local go_sem] bs_size bs_list bs_nil_list

theorem EV.all {N E c : Nat} {w W : World} {e : Ed} {A : Option Addr} (h : EV N w E e A c W) : W.cell? ⟨E, 0, none⟩ = some (.int .i64 e.dot.1.1) ∧ W.cell? ⟨E, 1, none⟩ = some (.int .i64 e.dot.1.2) ∧ W.cell? ⟨E, 2, none⟩ = some (.int .i64 e.dot.2) ∧ W.cell? ⟨E, 3, none⟩ = some (.int .i64 e.st.1) ∧ W.cell? ⟨E, 4, none⟩ = some (.int .i64 e.st.2.1) ∧ W.cell? ⟨E, 5, none⟩ = some (.int .i64 e.st.2.2) ∧ W.cell? ⟨E, 6, none⟩ = some (.int .i64 e.kind) ∧ W.cell? ⟨E, 7, none⟩ = some (.string (bs e.name)) ∧ W.cell? ⟨E, 8, none⟩ = some (.string (bs e.dom)) ∧ W.cell? ⟨E, 9, none⟩ = some (.string (bs e.path)) ∧ W.cell? ⟨E, 10, none⟩ = some (.string (bs e.value)) ∧ W.cell? ⟨E, 11, none⟩ = some (.bool e.ho) ∧ W.cell? ⟨E, 12, none⟩ = some (.bool e.se) ∧ W.cell? ⟨E, 13, none⟩ = some (.bool e.ht) ∧ W.cell? ⟨E, 14, none⟩ = some (.bool e.pe) ∧ W.cell? ⟨E, 15, none⟩ = some (.int .i64 e.exp) ∧ W.cell? ⟨E, 16, none⟩ = some (.int .i64 e.cre) ∧ W.cell? ⟨E, 17, none⟩ = some (.int .i64 e.acc) ∧ W.cell? ⟨E, 18, none⟩ = some (.slice A e.over.length c) := by
  refine ⟨?_, ?_, ?_, ?_, ?_, ?_, ?_, ?_, ?_, ?_, ?_, ?_, ?_, ?_, ?_, ?_, ?_, ?_, ?_⟩
  all_goals (rw [h.1.cell]; rfl)
theorem eql_item0' (e : Ed) (w : World) : (binOp .eql 121 (.agg #[.string (bs e.name), .string (bs e.dom), .string (bs e.path), .string (bs e.value), .bool e.ho, .bool e.se, .bool e.ht, .bool e.pe, .int .i64 e.exp, .int .i64 e.cre, .int .i64 e.acc]) (.agg #[.string ⟨#[]⟩, .string ⟨#[]⟩, .string ⟨#[]⟩, .string ⟨#[]⟩, .bool false, .bool false, .bool false, .bool false, .int .i64 0, .int .i64 0, .int .i64 0])).run Tryz.prog w = .ok (.bool (zeroB e)) w := eql_item0 e w
set_option maxHeartbeats 8000000 in
theorem rright20_no (e : Ed) (A : Option Addr) (c : Nat) (w : World) (h : MsAt w A e.over) (hs : short e) (hq : (dotB e.dot.1.1 e.dot.1.2 e.dot.2 && stB e.st.1 e.st.2.1 e.st.2.2 && (e.st.2.2 == e.dot.1.1) && decide (e.over.length ≤ 64)) = false) : Calls Tryz.prog 26 #[evV e A c] w fun r w' => r = .returned (.bool false) ∧ Below w.heap.size w w' := by
  have HE := Lib.hid (ev_new w e A c h)
  have CD := Lib.hid (fun w => rright_any e.dot.1.1 e.dot.1.2 e.dot.2 w)
  have CS := Lib.hid (fun w => rcright_any e.st.1 e.st.2.1 e.st.2.2 w)
  have CI := Lib.hid (fun w => rright14_any e w hs.1 hs.2.1 hs.2.2.1 hs.2.2.2.1)
  have hEq := fun w => eql_item0' e w
  have HEQ := Lib.hid hEq
  clear h hEq
  unfold dotV at CD
  unfold stV at CS
  unfold evV
  unfold evA at HE
  unfold itV at CI
  generalize dotB e.dot.1.1 e.dot.1.2 e.dot.2 = P1 at *
  generalize stB e.st.1 e.st.2.1 e.st.2.2 = P2 at *
  go_enter Tryz.func26, Tryz.ntmps26
  cases q1 : P1 with
  | true =>
    cases q2 : P2 with
    | true =>
      cases q3 : (e.st.2.2 == e.dot.1.1) with
      | true =>
        have t3 : (e.st.2.2 != e.dot.1.1) = false := by rw [bne, q3]; rfl
        cases q4 : decide (e.over.length ≤ 64) with
        | true =>
          rw [q1, q2, q3, q4] at hq
          cases hq
        | false =>
          have t4 : decide ((64 : Int) < (e.over.length : Int)) = true := decide_eq_true (by have := of_decide_eq_false q4; omega)
          have t4n : decide (64 < e.over.length) = true := decide_eq_true (by have := of_decide_eq_false q4; omega)
          go_wp2_with fail
          generalize w.alloc (.cells #[.int .i64 e.dot.1.1, .int .i64 e.dot.1.2, .int .i64 e.dot.2, .int .i64 e.st.1, .int .i64 e.st.2.1, .int .i64 e.st.2.2, .int .i64 e.kind, .string (bs e.name), .string (bs e.dom), .string (bs e.path), .string (bs e.value), .bool e.ho, .bool e.se, .bool e.ht, .bool e.pe, .int .i64 e.exp, .int .i64 e.cre, .int .i64 e.acc, .slice A e.over.length c] 59) = W0 at *
          refine (CD.out _).mono ?_; rintro r w2 ⟨rfl, b2⟩
          have hE := Lib.hid (HE.out.step b2)
          clear b2 HE
          have HE := hE
          clear hE
          try clear k0 k1 k2 k3 k4 k5 k6 k18
          obtain ⟨k0, k1, k2, k3, k4, k5, k6, k18⟩ := HE.out.cells
          go_wp2_with fail
          refine (CS.out _).mono ?_; rintro r w3 ⟨rfl, b3⟩
          have hE := Lib.hid (HE.out.step b3)
          clear b3 HE
          have HE := hE
          clear hE
          try clear k0 k1 k2 k3 k4 k5 k6 k18
          obtain ⟨k0, k1, k2, k3, k4, k5, k6, k18⟩ := HE.out.cells
          go_wp2
          go_ret
          exact ⟨rfl, HE.out.2.2.1⟩
      | false =>
        have t3 : (e.st.2.2 != e.dot.1.1) = true := by rw [bne, q3]; rfl
        go_wp2_with fail
        generalize w.alloc (.cells #[.int .i64 e.dot.1.1, .int .i64 e.dot.1.2, .int .i64 e.dot.2, .int .i64 e.st.1, .int .i64 e.st.2.1, .int .i64 e.st.2.2, .int .i64 e.kind, .string (bs e.name), .string (bs e.dom), .string (bs e.path), .string (bs e.value), .bool e.ho, .bool e.se, .bool e.ht, .bool e.pe, .int .i64 e.exp, .int .i64 e.cre, .int .i64 e.acc, .slice A e.over.length c] 59) = W0 at *
        refine (CD.out _).mono ?_; rintro r w2 ⟨rfl, b2⟩
        have hE := Lib.hid (HE.out.step b2)
        clear b2 HE
        have HE := hE
        clear hE
        try clear k0 k1 k2 k3 k4 k5 k6 k18
        obtain ⟨k0, k1, k2, k3, k4, k5, k6, k18⟩ := HE.out.cells
        go_wp2_with fail
        refine (CS.out _).mono ?_; rintro r w3 ⟨rfl, b3⟩
        have hE := Lib.hid (HE.out.step b3)
        clear b3 HE
        have HE := hE
        clear hE
        try clear k0 k1 k2 k3 k4 k5 k6 k18
        obtain ⟨k0, k1, k2, k3, k4, k5, k6, k18⟩ := HE.out.cells
        go_wp2
        go_ret
        exact ⟨rfl, HE.out.2.2.1⟩
    | false =>
      go_wp2_with fail
      generalize w.alloc (.cells #[.int .i64 e.dot.1.1, .int .i64 e.dot.1.2, .int .i64 e.dot.2, .int .i64 e.st.1, .int .i64 e.st.2.1, .int .i64 e.st.2.2, .int .i64 e.kind, .string (bs e.name), .string (bs e.dom), .string (bs e.path), .string (bs e.value), .bool e.ho, .bool e.se, .bool e.ht, .bool e.pe, .int .i64 e.exp, .int .i64 e.cre, .int .i64 e.acc, .slice A e.over.length c] 59) = W0 at *
      refine (CD.out _).mono ?_; rintro r w2 ⟨rfl, b2⟩
      have hE := Lib.hid (HE.out.step b2)
      clear b2 HE
      have HE := hE
      clear hE
      try clear k0 k1 k2 k3 k4 k5 k6 k18
      obtain ⟨k0, k1, k2, k3, k4, k5, k6, k18⟩ := HE.out.cells
      go_wp2_with fail
      refine (CS.out _).mono ?_; rintro r w3 ⟨rfl, b3⟩
      have hE := Lib.hid (HE.out.step b3)
      clear b3 HE
      have HE := hE
      clear hE
      try clear k0 k1 k2 k3 k4 k5 k6 k18
      obtain ⟨k0, k1, k2, k3, k4, k5, k6, k18⟩ := HE.out.cells
      go_wp2
      go_ret
      exact ⟨rfl, HE.out.2.2.1⟩
  | false =>
    go_wp2_with fail
    generalize w.alloc (.cells #[.int .i64 e.dot.1.1, .int .i64 e.dot.1.2, .int .i64 e.dot.2, .int .i64 e.st.1, .int .i64 e.st.2.1, .int .i64 e.st.2.2, .int .i64 e.kind, .string (bs e.name), .string (bs e.dom), .string (bs e.path), .string (bs e.value), .bool e.ho, .bool e.se, .bool e.ht, .bool e.pe, .int .i64 e.exp, .int .i64 e.cre, .int .i64 e.acc, .slice A e.over.length c] 59) = W0 at *
    refine (CD.out _).mono ?_; rintro r w2 ⟨rfl, b2⟩
    have hE := Lib.hid (HE.out.step b2)
    clear b2 HE
    have HE := hE
    clear hE
    try clear k0 k1 k2 k3 k4 k5 k6 k18
    obtain ⟨k0, k1, k2, k3, k4, k5, k6, k18⟩ := HE.out.cells
    go_wp2
    go_ret
    exact ⟨rfl, HE.out.2.2.1⟩
set_option maxHeartbeats 8000000 in
theorem rright20_yes (e : Ed) (A : Option Addr) (c : Nat) (w : World) (h : MsAt w A e.over) (hs : short e) (hq : (dotB e.dot.1.1 e.dot.1.2 e.dot.2 && stB e.st.1 e.st.2.1 e.st.2.2 && (e.st.2.2 == e.dot.1.1) && decide (e.over.length ≤ 64)) = true) : Calls Tryz.prog 26 #[evV e A c] w fun r w' => r = .returned (.bool (ovG e.dot none e.over && (if e.kind = 2 then zeroB e && decide (0 < e.over.length) else if e.kind = 1 then itemB e.name e.dom e.path e.value e.pe e.exp e.cre e.acc else false))) ∧ Below w.heap.size w w' := by
  have HE := Lib.hid (ev_new w e A c h)
  have CD := Lib.hid (fun w => rright_any e.dot.1.1 e.dot.1.2 e.dot.2 w)
  have CS := Lib.hid (fun w => rcright_any e.st.1 e.st.2.1 e.st.2.2 w)
  have CI := Lib.hid (fun w => rright14_any e w hs.1 hs.2.1 hs.2.2.1 hs.2.2.2.1)
  have hEq := fun w => eql_item0' e w
  have HEQ := Lib.hid hEq
  clear h hEq
  unfold dotV at CD
  unfold stV at CS
  unfold evV
  unfold evA at HE
  unfold itV at CI
  generalize hV : (ovG e.dot none e.over && (if e.kind = 2 then zeroB e && decide (0 < e.over.length) else if e.kind = 1 then itemB e.name e.dom e.path e.value e.pe e.exp e.cre e.acc else false)) = V
  have HV := Lib.hid hV.symm
  clear hV
  generalize dotB e.dot.1.1 e.dot.1.2 e.dot.2 = P1 at *
  generalize stB e.st.1 e.st.2.1 e.st.2.2 = P2 at *
  simp only [Bool.and_eq_true] at hq
  obtain ⟨⟨⟨q1, q2⟩, q3⟩, q4⟩ := hq
  rw [q1] at CD
  rw [q2] at CS
  have t3 : (e.st.2.2 != e.dot.1.1) = false := by rw [bne, q3]; rfl
  have h64 := of_decide_eq_true q4
  have t4 : decide ((64 : Int) < (e.over.length : Int)) = false := decide_eq_false (by omega)
  have t4n : decide (64 < e.over.length) = false := decide_eq_false (by omega)
  clear q1 q2 q3 q4
  go_enter Tryz.func26, Tryz.ntmps26
  go_wp2_with fail
  generalize w.alloc (.cells #[.int .i64 e.dot.1.1, .int .i64 e.dot.1.2, .int .i64 e.dot.2, .int .i64 e.st.1, .int .i64 e.st.2.1, .int .i64 e.st.2.2, .int .i64 e.kind, .string (bs e.name), .string (bs e.dom), .string (bs e.path), .string (bs e.value), .bool e.ho, .bool e.se, .bool e.ht, .bool e.pe, .int .i64 e.exp, .int .i64 e.cre, .int .i64 e.acc, .slice A e.over.length c] 59) = W0 at *
  refine (CD.out _).mono ?_; rintro r w2 ⟨rfl, b2⟩
  have hE := Lib.hid (HE.out.step b2)
  clear b2 HE
  have HE := hE
  clear hE
  try clear k0 k1 k2 k3 k4 k5 k6 k18
  obtain ⟨k0, k1, k2, k3, k4, k5, k6, k18⟩ := HE.out.cells
  go_wp2_with fail
  refine (CS.out _).mono ?_; rintro r w3 ⟨rfl, b3⟩
  have hE := Lib.hid (HE.out.step b3)
  clear b3 HE
  have HE := hE
  clear hE
  try clear k0 k1 k2 k3 k4 k5 k6 k18
  obtain ⟨k0, k1, k2, k3, k4, k5, k6, k18⟩ := HE.out.cells
  clear CD CS
  obtain ⟨⟨⟨o1, o2⟩, o3⟩, st, kind, name, dom, path, value, ho, se, ht, pe, exp, cre, acc, L⟩ := e
  simp only at *
  generalize hlen : L.length = n at *
  have HLn := Lib.hid hlen
  clear hlen
  go_wp2
  go_loopw [3] (fun i wr => ∃ j : Nat, j ≤ n ∧ i = .int .i64 j ∧ (∀ k x, k < j → L[k]? = some x → okP ((o1, o2), o3) (prevAt none L k) x = true) ∧ EV w.heap.size w w.heap.size ⟨((o1, o2), o3), st, kind, name, dom, path, value, ho, se, ht, pe, exp, cre, acc, L⟩ A c wr) (fun i _ => n - (intOf i).toNat)
  case atStart => exact ⟨0, by omega, rfl, fun k x hk => absurd hk (by omega), HE.out⟩
  case round =>
    obtain ⟨j, hj, rfl, hk, hEV⟩ := hrel
    have HK := Lib.hid (And.intro hk hEV)
    clear hk hEV HE k0 k1 k2 k3 k4 k5 k6 k18
    have k18 : wr.cell? ⟨w.heap.size, 18, none⟩ = some (.slice A n c) := by rw [HK.out.2.1.cell]; show some (Value.slice A L.length c) = _; rw [HLn.out]
    by_cases hlt : j < n
    · obtain ⟨x, hx⟩ : ∃ x, L[j]? = some x := ⟨L[j]'(by have := HLn.out; omega), List.getElem?_eq_getElem _⟩
      obtain ⟨b0, o0, hA, hbN, k0, k1, k2⟩ := Ds.at_ HK.out.2.2.1 hx
      subst hA
      obtain ⟨⟨x1, x2⟩, x3⟩ := x
      simp only at k0 k1 k2
      have HXj := Lib.hid hx
      clear hx
      have CR := Lib.hid (fun w => rright_any x1 x2 x3 w)
      unfold dotV at CR
      go_upto_region 7 with fail
      have HEV1 := Lib.hid (HK.out.2.alloc (.cells #[.int .i64 x1, .int .i64 x2, .int .i64 x3] 50))
      have hD := Whole.new wr 50 #[.int .i64 x1, .int .i64 x2, .int .i64 x3]
      generalize hW1 : wr.alloc (.cells #[.int .i64 x1, .int .i64 x2, .int .i64 x3] 50) = W1 at *
      have hDl : wr.heap.size < W1.heap.size := hD.lt
      generalize wr.heap.size = D at *
      have hEl : w.heap.size < W1.heap.size := HEV1.out.1.lt
      have hbl : b0 < W1.heap.size := Nat.lt_of_lt_of_le hbN HEV1.out.2.2.2
      have hN0 : W1.heap.size ≤ W1.drew.heap.size := Nat.le_refl _
      have hS : W1.cell? ⟨D, 0, none⟩ = some (.int .i64 x1) ∧ W1.cell? ⟨D, 1, none⟩ = some (.int .i64 x2) ∧ W1.cell? ⟨D, 2, none⟩ = some (.int .i64 x3) ∧ W1.cell? ⟨w.heap.size, 0, none⟩ = some (.int .i64 o1) ∧ W1.cell? ⟨w.heap.size, 1, none⟩ = some (.int .i64 o2) ∧ W1.cell? ⟨w.heap.size, 2, none⟩ = some (.int .i64 o3) ∧ W1.cell? ⟨w.heap.size, 18, none⟩ = some (.slice (some ⟨b0, o0, none⟩) n c) := by
        refine ⟨?_, ?_, ?_, ?_, ?_, ?_, ?_⟩
        all_goals first | (rw [hD.cell]; rfl) | (rw [HEV1.out.1.cell]; rfl) | (rw [HEV1.out.1.cell]; show some (Value.slice _ L.length _) = _; rw [HLn.out])
      have HS := Lib.hid hS
      clear hS hW1 hD k0 k1 k2 k18 hs CI
      by_cases hj0 : j = 0
      · subst hj0
        have HPV := Lib.hid (show prevAt none L 0 = none from rfl)
        cases hr : dotB x1 x2 x3 with
        | false =>
          rw [hr] at CR
          have hr' : rightD ((x1, x2), x3) = false := hr
          clear hr
          have HX := Lib.hid (show okP ((o1, o2), o3) (prevAt none L 0) ((x1, x2), x3) = false from by unfold okP; rw [hr']; rfl)
          clear hr'
          refine wp_region_held_drew (S := (fun W => W.cell? ⟨D, 0, none⟩ = some (.int .i64 x1) ∧ W.cell? ⟨D, 1, none⟩ = some (.int .i64 x2) ∧ W.cell? ⟨D, 2, none⟩ = some (.int .i64 x3) ∧ W.cell? ⟨w.heap.size, 0, none⟩ = some (.int .i64 o1) ∧ W.cell? ⟨w.heap.size, 1, none⟩ = some (.int .i64 o2) ∧ W.cell? ⟨w.heap.size, 2, none⟩ = some (.int .i64 o3) ∧ W.cell? ⟨w.heap.size, 18, none⟩ = some (.slice (some ⟨b0, o0, none⟩) n c))) (by kernel_rfl) ?_ (fun hHeld => ?_)
          · (try dsimp only); exact HS.out
          refine wpAnyH_take (i := 0) (v := ?_) rfl (by kernel_rfl) (by kernel_rfl) (by kernel_rfl) (fun _ _ _ h => h) (Or.inl ⟨by rfl, ?_⟩) (by assumption) ?_
          rotate_left
          first | (focus ((intro w hSw; (try dsimp only at hSw); go_simp); (try with_reducible rfl); done)) | fail
          try simp only [Act.put, List.getElem_toArray, List.getElem_cons_zero, List.setIfInBounds_toArray, List.set_cons_zero, List.set_cons_succ]
          refine wpAnyH_ready (rs := [1]) (by kernel_rfl) (by simp) ?_
          refine AllReadyH.cons rfl (fun K hK => ?_) AllReadyH.nil
          go_simp
          refine (CR.out _).mono ?_; rintro r w5 ⟨rfl, b5⟩
          go_wp2_with fail
          refine hK.out _ _ ?_ (fun hHeld => ?_)
          · (try dsimp only); exact ⟨((below_of_le b5 hN0).cell hDl).trans hHeld.1, ((below_of_le b5 hN0).cell hDl).trans hHeld.2.1, ((below_of_le b5 hN0).cell hDl).trans hHeld.2.2.1, ((below_of_le b5 hN0).cell hEl).trans hHeld.2.2.2.1, ((below_of_le b5 hN0).cell hEl).trans hHeld.2.2.2.2.1, ((below_of_le b5 hN0).cell hEl).trans hHeld.2.2.2.2.2.1, ((below_of_le b5 hN0).cell hEl).trans hHeld.2.2.2.2.2.2⟩
          clear hK K
          try simp only [Act.put, List.getElem_toArray, List.getElem_cons_zero, List.getElem_cons_succ, List.setIfInBounds_toArray, List.set_cons_zero, List.set_cons_succ]
          have B5 := Lib.hid (below_of_le b5 hN0)
          clear b5
          refine wpAnyH_take (i := 2) (v := ?_) rfl (by kernel_rfl) (by kernel_rfl) (by kernel_rfl) (fun _ _ _ h => h) (Or.inl ⟨by rfl, ?_⟩) (by assumption) ?_
          rotate_left
          first | (focus ((intro w hSw; (try dsimp only at hSw); go_simp); (try with_reducible rfl); done)) | fail
          try simp only [Act.put, List.getElem_toArray, List.getElem_cons_zero, List.getElem_cons_succ, List.setIfInBounds_toArray, List.set_cons_zero, List.set_cons_succ]
          refine wpAnyH_take (i := 3) (v := ?_) rfl (by kernel_rfl) (by kernel_rfl) (by kernel_rfl) (fun _ _ _ h => h) (Or.inl ⟨by rfl, ?_⟩) (by assumption) ?_
          rotate_left
          first | (focus ((intro w hSw; (try dsimp only at hSw); go_simp); (try with_reducible rfl); done)) | fail
          try simp only [Act.put, List.getElem_toArray, List.getElem_cons_zero, List.getElem_cons_succ, List.setIfInBounds_toArray, List.set_cons_zero, List.set_cons_succ]
          refine wpAnyH_take (i := 4) (v := undef) rfl (by kernel_rfl) (by kernel_rfl) (by kernel_rfl) (fun _ _ _ h => h) (Or.inr ⟨by rfl, rfl⟩) (by assumption) ?_
          try simp only [Act.put, List.getElem_toArray, List.getElem_cons_zero, List.getElem_cons_succ, List.setIfInBounds_toArray, List.set_cons_zero, List.set_cons_succ]
          refine wpAnyH_take (i := 5) (v := undef) rfl (by kernel_rfl) (by kernel_rfl) (by kernel_rfl) (fun _ _ _ h => h) (Or.inr ⟨by rfl, rfl⟩) (by assumption) ?_
          try simp only [Act.put, List.getElem_toArray, List.getElem_cons_zero, List.getElem_cons_succ, List.setIfInBounds_toArray, List.set_cons_zero, List.set_cons_succ]
          refine wpAnyH_take (i := 6) (v := undef) rfl (by kernel_rfl) (by kernel_rfl) (by kernel_rfl) (fun _ _ _ h => h) (Or.inr ⟨by rfl, rfl⟩) (by assumption) ?_
          try simp only [Act.put, List.getElem_toArray, List.getElem_cons_zero, List.getElem_cons_succ, List.setIfInBounds_toArray, List.set_cons_zero, List.set_cons_succ]
          refine wpAnyH_take (i := 7) (v := undef) rfl (by kernel_rfl) (by kernel_rfl) (by kernel_rfl) (fun _ _ _ h => h) (Or.inr ⟨by rfl, rfl⟩) (by assumption) ?_
          try simp only [Act.put, List.getElem_toArray, List.getElem_cons_zero, List.getElem_cons_succ, List.setIfInBounds_toArray, List.set_cons_zero, List.set_cons_succ]
          refine wpAnyH_take (i := 8) (v := undef) rfl (by kernel_rfl) (by kernel_rfl) (by kernel_rfl) (fun _ _ _ h => h) (Or.inr ⟨by rfl, rfl⟩) (by assumption) ?_
          try simp only [Act.put, List.getElem_toArray, List.getElem_cons_zero, List.getElem_cons_succ, List.setIfInBounds_toArray, List.set_cons_zero, List.set_cons_succ]
          refine wpAnyH_take (i := 9) (v := undef) rfl (by kernel_rfl) (by kernel_rfl) (by kernel_rfl) (fun _ _ _ h => h) (Or.inr ⟨by rfl, rfl⟩) (by assumption) ?_
          try simp only [Act.put, List.getElem_toArray, List.getElem_cons_zero, List.getElem_cons_succ, List.setIfInBounds_toArray, List.set_cons_zero, List.set_cons_succ]
          refine wpAnyH_take (i := 10) (v := undef) rfl (by kernel_rfl) (by kernel_rfl) (by kernel_rfl) (fun _ _ _ h => h) (Or.inr ⟨by rfl, rfl⟩) (by assumption) ?_
          try simp only [Act.put, List.getElem_toArray, List.getElem_cons_zero, List.getElem_cons_succ, List.setIfInBounds_toArray, List.set_cons_zero, List.set_cons_succ]
          refine wpAnyH_take (i := 11) (v := undef) rfl (by kernel_rfl) (by kernel_rfl) (by kernel_rfl) (fun _ _ _ h => h) (Or.inr ⟨by rfl, rfl⟩) (by assumption) ?_
          try simp only [Act.put, List.getElem_toArray, List.getElem_cons_zero, List.getElem_cons_succ, List.setIfInBounds_toArray, List.set_cons_zero, List.set_cons_succ]
          refine wpAnyH_take (i := 12) (v := undef) rfl (by kernel_rfl) (by kernel_rfl) (by kernel_rfl) (fun _ _ _ h => h) (Or.inr ⟨by rfl, rfl⟩) (by assumption) ?_
          try simp only [Act.put, List.getElem_toArray, List.getElem_cons_zero, List.getElem_cons_succ, List.setIfInBounds_toArray, List.set_cons_zero, List.set_cons_succ]
          refine wpAnyH_take (i := 13) (v := undef) rfl (by kernel_rfl) (by kernel_rfl) (by kernel_rfl) (fun _ _ _ h => h) (Or.inr ⟨by rfl, rfl⟩) (by assumption) ?_
          try simp only [Act.put, List.getElem_toArray, List.getElem_cons_zero, List.getElem_cons_succ, List.setIfInBounds_toArray, List.set_cons_zero, List.set_cons_succ]
          refine wpAnyH_take (i := 14) (v := undef) rfl (by kernel_rfl) (by kernel_rfl) (by kernel_rfl) (fun _ _ _ h => h) (Or.inr ⟨by rfl, rfl⟩) (by assumption) ?_
          try simp only [Act.put, List.getElem_toArray, List.getElem_cons_zero, List.getElem_cons_succ, List.setIfInBounds_toArray, List.set_cons_zero, List.set_cons_succ]
          refine wpAnyH_take (i := 15) (v := undef) rfl (by kernel_rfl) (by kernel_rfl) (by kernel_rfl) (fun _ _ _ h => h) (Or.inr ⟨by rfl, rfl⟩) (by assumption) ?_
          try simp only [Act.put, List.getElem_toArray, List.getElem_cons_zero, List.getElem_cons_succ, List.setIfInBounds_toArray, List.set_cons_zero, List.set_cons_succ]
          refine wpAnyH_take (i := 16) (v := undef) rfl (by kernel_rfl) (by kernel_rfl) (by kernel_rfl) (fun _ _ _ h => h) (Or.inr ⟨by rfl, rfl⟩) (by assumption) ?_
          try simp only [Act.put, List.getElem_toArray, List.getElem_cons_zero, List.getElem_cons_succ, List.setIfInBounds_toArray, List.set_cons_zero, List.set_cons_succ]
          refine wpAnyH_take (i := 17) (v := ?_) rfl (by kernel_rfl) (by kernel_rfl) (by kernel_rfl) (fun _ _ _ h => h) (Or.inl ⟨by rfl, ?_⟩) (by assumption) ?_
          rotate_left
          first | (focus ((intro w hSw; (try dsimp only at hSw); go_simp); (try with_reducible rfl); done)) | fail
          try simp only [Act.put, List.getElem_toArray, List.getElem_cons_zero, List.getElem_cons_succ, List.setIfInBounds_toArray, List.set_cons_zero, List.set_cons_succ]
          refine wpAnyH_take (i := 18) (v := ?_) rfl (by kernel_rfl) (by kernel_rfl) (by kernel_rfl) (fun _ _ _ h => h) (Or.inl ⟨by rfl, ?_⟩) (by assumption) ?_
          rotate_left
          first | (focus ((intro w hSw; (try dsimp only at hSw); go_simp); (try with_reducible rfl); done)) | fail
          try simp only [Act.put, List.getElem_toArray, List.getElem_cons_zero, List.getElem_cons_succ, List.setIfInBounds_toArray, List.set_cons_zero, List.set_cons_succ]
          refine wpAnyH_take (i := 19) (v := undef) rfl (by kernel_rfl) (by kernel_rfl) (by kernel_rfl) (fun _ _ _ h => h) (Or.inr ⟨by rfl, rfl⟩) (by assumption) ?_
          try simp only [Act.put, List.getElem_toArray, List.getElem_cons_zero, List.getElem_cons_succ, List.setIfInBounds_toArray, List.set_cons_zero, List.set_cons_succ]
          refine wpAnyH_take (i := 20) (v := undef) rfl (by kernel_rfl) (by kernel_rfl) (by kernel_rfl) (fun _ _ _ h => h) (Or.inr ⟨by rfl, rfl⟩) (by assumption) ?_
          try simp only [Act.put, List.getElem_toArray, List.getElem_cons_zero, List.getElem_cons_succ, List.setIfInBounds_toArray, List.set_cons_zero, List.set_cons_succ]
          refine wpAnyH_take (i := 21) (v := undef) rfl (by kernel_rfl) (by kernel_rfl) (by kernel_rfl) (fun _ _ _ h => h) (Or.inr ⟨by rfl, rfl⟩) (by assumption) ?_
          try simp only [Act.put, List.getElem_toArray, List.getElem_cons_zero, List.getElem_cons_succ, List.setIfInBounds_toArray, List.set_cons_zero, List.set_cons_succ]
          refine wpAnyH_take (i := 22) (v := undef) rfl (by kernel_rfl) (by kernel_rfl) (by kernel_rfl) (fun _ _ _ h => h) (Or.inr ⟨by rfl, rfl⟩) (by assumption) ?_
          try simp only [Act.put, List.getElem_toArray, List.getElem_cons_zero, List.getElem_cons_succ, List.setIfInBounds_toArray, List.set_cons_zero, List.set_cons_succ]
          refine wpAnyH_take (i := 23) (v := undef) rfl (by kernel_rfl) (by kernel_rfl) (by kernel_rfl) (fun _ _ _ h => h) (Or.inr ⟨by rfl, rfl⟩) (by assumption) ?_
          try simp only [Act.put, List.getElem_toArray, List.getElem_cons_zero, List.getElem_cons_succ, List.setIfInBounds_toArray, List.set_cons_zero, List.set_cons_succ]
          refine wpAnyH_take (i := 24) (v := undef) rfl (by kernel_rfl) (by kernel_rfl) (by kernel_rfl) (fun _ _ _ h => h) (Or.inr ⟨by rfl, rfl⟩) (by assumption) ?_
          try simp only [Act.put, List.getElem_toArray, List.getElem_cons_zero, List.getElem_cons_succ, List.setIfInBounds_toArray, List.set_cons_zero, List.set_cons_succ]
          refine wpAnyH_take (i := 25) (v := undef) rfl (by kernel_rfl) (by kernel_rfl) (by kernel_rfl) (fun _ _ _ h => h) (Or.inr ⟨by rfl, rfl⟩) (by assumption) ?_
          try simp only [Act.put, List.getElem_toArray, List.getElem_cons_zero, List.getElem_cons_succ, List.setIfInBounds_toArray, List.set_cons_zero, List.set_cons_succ]
          refine wpAnyH_take (i := 26) (v := undef) rfl (by kernel_rfl) (by kernel_rfl) (by kernel_rfl) (fun _ _ _ h => h) (Or.inr ⟨by rfl, rfl⟩) (by assumption) ?_
          try simp only [Act.put, List.getElem_toArray, List.getElem_cons_zero, List.getElem_cons_succ, List.setIfInBounds_toArray, List.set_cons_zero, List.set_cons_succ]
          refine wpAnyH_take (i := 27) (v := undef) rfl (by kernel_rfl) (by kernel_rfl) (by kernel_rfl) (fun _ _ _ h => h) (Or.inr ⟨by rfl, rfl⟩) (by assumption) ?_
          try simp only [Act.put, List.getElem_toArray, List.getElem_cons_zero, List.getElem_cons_succ, List.setIfInBounds_toArray, List.set_cons_zero, List.set_cons_succ]
          refine wpAnyH_take (i := 28) (v := undef) rfl (by kernel_rfl) (by kernel_rfl) (by kernel_rfl) (fun _ _ _ h => h) (Or.inr ⟨by rfl, rfl⟩) (by assumption) ?_
          try simp only [Act.put, List.getElem_toArray, List.getElem_cons_zero, List.getElem_cons_succ, List.setIfInBounds_toArray, List.set_cons_zero, List.set_cons_succ]
          refine wpAnyH_take (i := 29) (v := undef) rfl (by kernel_rfl) (by kernel_rfl) (by kernel_rfl) (fun _ _ _ h => h) (Or.inr ⟨by rfl, rfl⟩) (by assumption) ?_
          try simp only [Act.put, List.getElem_toArray, List.getElem_cons_zero, List.getElem_cons_succ, List.setIfInBounds_toArray, List.set_cons_zero, List.set_cons_succ]
          refine wpAnyH_take (i := 30) (v := undef) rfl (by kernel_rfl) (by kernel_rfl) (by kernel_rfl) (fun _ _ _ h => h) (Or.inr ⟨by rfl, rfl⟩) (by assumption) ?_
          try simp only [Act.put, List.getElem_toArray, List.getElem_cons_zero, List.getElem_cons_succ, List.setIfInBounds_toArray, List.set_cons_zero, List.set_cons_succ]
          refine wpAnyH_take (i := 31) (v := undef) rfl (by kernel_rfl) (by kernel_rfl) (by kernel_rfl) (fun _ _ _ h => h) (Or.inr ⟨by rfl, rfl⟩) (by assumption) ?_
          try simp only [Act.put, List.getElem_toArray, List.getElem_cons_zero, List.getElem_cons_succ, List.setIfInBounds_toArray, List.set_cons_zero, List.set_cons_succ]
          refine wpAnyH_take (i := 32) (v := undef) rfl (by kernel_rfl) (by kernel_rfl) (by kernel_rfl) (fun _ _ _ h => h) (Or.inr ⟨by rfl, rfl⟩) (by assumption) ?_
          try simp only [Act.put, List.getElem_toArray, List.getElem_cons_zero, List.getElem_cons_succ, List.setIfInBounds_toArray, List.set_cons_zero, List.set_cons_succ]
          refine wpAnyH_take (i := 33) (v := ?_) rfl (by kernel_rfl) (by kernel_rfl) (by kernel_rfl) (fun _ _ _ h => h) (Or.inl ⟨by rfl, ?_⟩) (by assumption) ?_
          rotate_left
          first | (focus ((intro w hSw; (try dsimp only at hSw); go_simp); (try with_reducible rfl); done)) | fail
          try simp only [Act.put, List.getElem_toArray, List.getElem_cons_zero, List.getElem_cons_succ, List.setIfInBounds_toArray, List.set_cons_zero, List.set_cons_succ]
          refine wpAnyH_done (by kernel_rfl) ?_ _
          go_wp2
          go_ret
          exact ⟨by rw [HV.out, ovG_no HXj.out HX.out]; rfl, HEV1.out.2.2.1.drew.trans (below_of_le B5.out HEV1.out.2.2.2)⟩
        | true =>
          rw [hr] at CR
          have hr' : rightD ((x1, x2), x3) = true := hr
          clear hr
          by_cases hq : x1 = o1 ∧ x2 = o2
          · have hEq : ∀ w : World, (binOp .eql 48 (.agg #[.int .i64 x1, .int .i64 x2]) (.agg #[.int .i64 o1, .int .i64 o2])).run Tryz.prog w = .ok (.bool true) w := fun w => by have h := eql_act x1 x2 o1 o2 w; unfold actV at h; rw [decide_eq_true hq] at h; exact h
            have hq1 : decide (((x1, x2) : Ac) = (o1, o2)) = true := decide_eq_true (Prod.ext hq.1 hq.2)
            clear hq
            by_cases hs : o3 ≤ x3
            · have hs1 : decide (o3 ≤ x3) = true := decide_eq_true hs
              have HX := Lib.hid (show okP ((o1, o2), o3) (prevAt none L 0) ((x1, x2), x3) = false from by rw [HPV.out]; unfold okP; rw [hr', hq1, hs1]; rfl)
              clear hq1 hr'
              refine wp_region_held_drew (S := (fun W => W.cell? ⟨D, 0, none⟩ = some (.int .i64 x1) ∧ W.cell? ⟨D, 1, none⟩ = some (.int .i64 x2) ∧ W.cell? ⟨D, 2, none⟩ = some (.int .i64 x3) ∧ W.cell? ⟨w.heap.size, 0, none⟩ = some (.int .i64 o1) ∧ W.cell? ⟨w.heap.size, 1, none⟩ = some (.int .i64 o2) ∧ W.cell? ⟨w.heap.size, 2, none⟩ = some (.int .i64 o3) ∧ W.cell? ⟨w.heap.size, 18, none⟩ = some (.slice (some ⟨b0, o0, none⟩) n c))) (by kernel_rfl) ?_ (fun hHeld => ?_)
              · (try dsimp only); exact HS.out
              refine wpAnyH_take (i := 0) (v := ?_) rfl (by kernel_rfl) (by kernel_rfl) (by kernel_rfl) (fun _ _ _ h => h) (Or.inl ⟨by rfl, ?_⟩) (by assumption) ?_
              rotate_left
              first | (focus ((intro w hSw; (try dsimp only at hSw); go_simp); (try with_reducible rfl); done)) | fail
              try simp only [Act.put, List.getElem_toArray, List.getElem_cons_zero, List.setIfInBounds_toArray, List.set_cons_zero, List.set_cons_succ]
              refine wpAnyH_ready (rs := [1]) (by kernel_rfl) (by simp) ?_
              refine AllReadyH.cons rfl (fun K hK => ?_) AllReadyH.nil
              go_simp
              refine (CR.out _).mono ?_; rintro r w5 ⟨rfl, b5⟩
              go_wp2_with fail
              refine hK.out _ _ ?_ (fun hHeld => ?_)
              · (try dsimp only); exact ⟨((below_of_le b5 hN0).cell hDl).trans hHeld.1, ((below_of_le b5 hN0).cell hDl).trans hHeld.2.1, ((below_of_le b5 hN0).cell hDl).trans hHeld.2.2.1, ((below_of_le b5 hN0).cell hEl).trans hHeld.2.2.2.1, ((below_of_le b5 hN0).cell hEl).trans hHeld.2.2.2.2.1, ((below_of_le b5 hN0).cell hEl).trans hHeld.2.2.2.2.2.1, ((below_of_le b5 hN0).cell hEl).trans hHeld.2.2.2.2.2.2⟩
              clear hK K
              try simp only [Act.put, List.getElem_toArray, List.getElem_cons_zero, List.getElem_cons_succ, List.setIfInBounds_toArray, List.set_cons_zero, List.set_cons_succ]
              have B5 := Lib.hid (below_of_le b5 hN0)
              clear b5
              refine wpAnyH_take (i := 2) (v := ?_) rfl (by kernel_rfl) (by kernel_rfl) (by kernel_rfl) (fun _ _ _ h => h) (Or.inl ⟨by rfl, ?_⟩) (by assumption) ?_
              rotate_left
              first | (focus ((intro w hSw; (try dsimp only at hSw); go_simp); (try with_reducible rfl); done)) | fail
              try simp only [Act.put, List.getElem_toArray, List.getElem_cons_zero, List.getElem_cons_succ, List.setIfInBounds_toArray, List.set_cons_zero, List.set_cons_succ]
              refine wpAnyH_take (i := 3) (v := ?_) rfl (by kernel_rfl) (by kernel_rfl) (by kernel_rfl) (fun _ _ _ h => h) (Or.inl ⟨by rfl, ?_⟩) (by assumption) ?_
              rotate_left
              first | (focus ((intro w hSw; (try dsimp only at hSw); go_simp); (try with_reducible rfl); done)) | fail
              try simp only [Act.put, List.getElem_toArray, List.getElem_cons_zero, List.getElem_cons_succ, List.setIfInBounds_toArray, List.set_cons_zero, List.set_cons_succ]
              refine wpAnyH_take (i := 4) (v := ?_) rfl (by kernel_rfl) (by kernel_rfl) (by kernel_rfl) (fun _ _ _ h => h) (Or.inl ⟨by rfl, ?_⟩) (by assumption) ?_
              rotate_left
              first | (focus ((intro w hSw; (try dsimp only at hSw); go_simp); (try with_reducible rfl); done)) | fail
              try simp only [Act.put, List.getElem_toArray, List.getElem_cons_zero, List.getElem_cons_succ, List.setIfInBounds_toArray, List.set_cons_zero, List.set_cons_succ]
              refine wpAnyH_take (i := 5) (v := ?_) rfl (by kernel_rfl) (by kernel_rfl) (by kernel_rfl) (fun _ _ _ h => h) (Or.inl ⟨by rfl, ?_⟩) (by assumption) ?_
              rotate_left
              first | (focus ((intro w hSw; (try dsimp only at hSw); go_simp); (try with_reducible rfl); done)) | fail
              try simp only [Act.put, List.getElem_toArray, List.getElem_cons_zero, List.getElem_cons_succ, List.setIfInBounds_toArray, List.set_cons_zero, List.set_cons_succ]
              refine wpAnyH_take (i := 6) (v := ?_) rfl (by kernel_rfl) (by kernel_rfl) (by kernel_rfl) (fun _ _ _ h => h) (Or.inl ⟨by rfl, ?_⟩) (by assumption) ?_
              rotate_left
              first | (focus ((intro w hSw; (try dsimp only at hSw); go_simp); (try with_reducible rfl); done)) | fail
              try simp only [Act.put, List.getElem_toArray, List.getElem_cons_zero, List.getElem_cons_succ, List.setIfInBounds_toArray, List.set_cons_zero, List.set_cons_succ]
              refine wpAnyH_take (i := 7) (v := undef) rfl (by kernel_rfl) (by kernel_rfl) (by kernel_rfl) (fun _ _ _ h => h) (Or.inr ⟨by rfl, rfl⟩) (by assumption) ?_
              try simp only [Act.put, List.getElem_toArray, List.getElem_cons_zero, List.getElem_cons_succ, List.setIfInBounds_toArray, List.set_cons_zero, List.set_cons_succ]
              refine wpAnyH_take (i := 8) (v := undef) rfl (by kernel_rfl) (by kernel_rfl) (by kernel_rfl) (fun _ _ _ h => h) (Or.inr ⟨by rfl, rfl⟩) (by assumption) ?_
              try simp only [Act.put, List.getElem_toArray, List.getElem_cons_zero, List.getElem_cons_succ, List.setIfInBounds_toArray, List.set_cons_zero, List.set_cons_succ]
              refine wpAnyH_take (i := 9) (v := undef) rfl (by kernel_rfl) (by kernel_rfl) (by kernel_rfl) (fun _ _ _ h => h) (Or.inr ⟨by rfl, rfl⟩) (by assumption) ?_
              try simp only [Act.put, List.getElem_toArray, List.getElem_cons_zero, List.getElem_cons_succ, List.setIfInBounds_toArray, List.set_cons_zero, List.set_cons_succ]
              refine wpAnyH_take (i := 10) (v := undef) rfl (by kernel_rfl) (by kernel_rfl) (by kernel_rfl) (fun _ _ _ h => h) (Or.inr ⟨by rfl, rfl⟩) (by assumption) ?_
              try simp only [Act.put, List.getElem_toArray, List.getElem_cons_zero, List.getElem_cons_succ, List.setIfInBounds_toArray, List.set_cons_zero, List.set_cons_succ]
              refine wpAnyH_take (i := 11) (v := undef) rfl (by kernel_rfl) (by kernel_rfl) (by kernel_rfl) (fun _ _ _ h => h) (Or.inr ⟨by rfl, rfl⟩) (by assumption) ?_
              try simp only [Act.put, List.getElem_toArray, List.getElem_cons_zero, List.getElem_cons_succ, List.setIfInBounds_toArray, List.set_cons_zero, List.set_cons_succ]
              refine wpAnyH_take (i := 12) (v := undef) rfl (by kernel_rfl) (by kernel_rfl) (by kernel_rfl) (fun _ _ _ h => h) (Or.inr ⟨by rfl, rfl⟩) (by assumption) ?_
              try simp only [Act.put, List.getElem_toArray, List.getElem_cons_zero, List.getElem_cons_succ, List.setIfInBounds_toArray, List.set_cons_zero, List.set_cons_succ]
              refine wpAnyH_take (i := 13) (v := undef) rfl (by kernel_rfl) (by kernel_rfl) (by kernel_rfl) (fun _ _ _ h => h) (Or.inr ⟨by rfl, rfl⟩) (by assumption) ?_
              try simp only [Act.put, List.getElem_toArray, List.getElem_cons_zero, List.getElem_cons_succ, List.setIfInBounds_toArray, List.set_cons_zero, List.set_cons_succ]
              refine wpAnyH_take (i := 14) (v := undef) rfl (by kernel_rfl) (by kernel_rfl) (by kernel_rfl) (fun _ _ _ h => h) (Or.inr ⟨by rfl, rfl⟩) (by assumption) ?_
              try simp only [Act.put, List.getElem_toArray, List.getElem_cons_zero, List.getElem_cons_succ, List.setIfInBounds_toArray, List.set_cons_zero, List.set_cons_succ]
              refine wpAnyH_take (i := 15) (v := undef) rfl (by kernel_rfl) (by kernel_rfl) (by kernel_rfl) (fun _ _ _ h => h) (Or.inr ⟨by rfl, rfl⟩) (by assumption) ?_
              try simp only [Act.put, List.getElem_toArray, List.getElem_cons_zero, List.getElem_cons_succ, List.setIfInBounds_toArray, List.set_cons_zero, List.set_cons_succ]
              refine wpAnyH_take (i := 16) (v := ?_) rfl (by kernel_rfl) (by kernel_rfl) (by kernel_rfl) (fun _ _ _ h => h) (Or.inl ⟨by rfl, ?_⟩) (by assumption) ?_
              rotate_left
              first | (focus ((intro w hSw; (try dsimp only at hSw); go_simp); (try with_reducible rfl); done)) | fail
              try simp only [Act.put, List.getElem_toArray, List.getElem_cons_zero, List.getElem_cons_succ, List.setIfInBounds_toArray, List.set_cons_zero, List.set_cons_succ]
              refine wpAnyH_take (i := 17) (v := ?_) rfl (by kernel_rfl) (by kernel_rfl) (by kernel_rfl) (fun _ _ _ h => h) (Or.inl ⟨by rfl, ?_⟩) (by assumption) ?_
              rotate_left
              first | (focus ((intro w hSw; (try dsimp only at hSw); go_simp); (try with_reducible rfl); done)) | fail
              try simp only [Act.put, List.getElem_toArray, List.getElem_cons_zero, List.getElem_cons_succ, List.setIfInBounds_toArray, List.set_cons_zero, List.set_cons_succ]
              refine wpAnyH_take (i := 18) (v := ?_) rfl (by kernel_rfl) (by kernel_rfl) (by kernel_rfl) (fun _ _ _ h => h) (Or.inl ⟨by rfl, ?_⟩) (by assumption) ?_
              rotate_left
              first | (focus ((intro w hSw; (try dsimp only at hSw); go_simp); (try with_reducible rfl); done)) | fail
              try simp only [Act.put, List.getElem_toArray, List.getElem_cons_zero, List.getElem_cons_succ, List.setIfInBounds_toArray, List.set_cons_zero, List.set_cons_succ]
              refine wpAnyH_take (i := 19) (v := ?_) rfl (by kernel_rfl) (by kernel_rfl) (by kernel_rfl) (fun _ _ _ h => h) (Or.inl ⟨by rfl, ?_⟩) (by assumption) ?_
              rotate_left
              first | (focus ((intro w hSw; (try dsimp only at hSw); go_simp); (try with_reducible rfl); done)) | fail
              try simp only [Act.put, List.getElem_toArray, List.getElem_cons_zero, List.getElem_cons_succ, List.setIfInBounds_toArray, List.set_cons_zero, List.set_cons_succ]
              refine wpAnyH_take (i := 20) (v := ?_) rfl (by kernel_rfl) (by kernel_rfl) (by kernel_rfl) (fun _ _ _ h => h) (Or.inl ⟨by rfl, ?_⟩) (by assumption) ?_
              rotate_left
              first | (focus ((intro w hSw; (try dsimp only at hSw); go_simp); (try with_reducible rfl); done)) | fail
              try simp only [Act.put, List.getElem_toArray, List.getElem_cons_zero, List.getElem_cons_succ, List.setIfInBounds_toArray, List.set_cons_zero, List.set_cons_succ]
              refine wpAnyH_take (i := 21) (v := ?_) rfl (by kernel_rfl) (by kernel_rfl) (by kernel_rfl) (fun _ _ _ h => h) (Or.inl ⟨by rfl, ?_⟩) (by assumption) ?_
              rotate_left
              first | (focus ((intro w hSw; (try dsimp only at hSw); go_simp); (try with_reducible rfl); done)) | fail
              try simp only [Act.put, List.getElem_toArray, List.getElem_cons_zero, List.getElem_cons_succ, List.setIfInBounds_toArray, List.set_cons_zero, List.set_cons_succ]
              refine wpAnyH_take (i := 22) (v := ?_) rfl (by kernel_rfl) (by kernel_rfl) (by kernel_rfl) (fun _ _ _ h => h) (Or.inl ⟨by rfl, ?_⟩) (by assumption) ?_
              rotate_left
              first | (focus ((intro w hSw; (try dsimp only at hSw); go_simp); (try with_reducible rfl); done)) | fail
              try simp only [Act.put, List.getElem_toArray, List.getElem_cons_zero, List.getElem_cons_succ, List.setIfInBounds_toArray, List.set_cons_zero, List.set_cons_succ]
              refine wpAnyH_take (i := 23) (v := ?_) rfl (by kernel_rfl) (by kernel_rfl) (by kernel_rfl) (fun _ _ _ h => h) (Or.inl ⟨by rfl, ?_⟩) (by assumption) ?_
              rotate_left
              first | (focus ((intro w hSw; (try dsimp only at hSw); go_simp); (try with_reducible rfl); done)) | fail
              try simp only [Act.put, List.getElem_toArray, List.getElem_cons_zero, List.getElem_cons_succ, List.setIfInBounds_toArray, List.set_cons_zero, List.set_cons_succ]
              refine wpAnyH_take (i := 24) (v := ?_) rfl (by kernel_rfl) (by kernel_rfl) (by kernel_rfl) (fun _ _ _ h => h) (Or.inl ⟨by rfl, ?_⟩) (by assumption) ?_
              rotate_left
              first | (focus ((intro w hSw; (try dsimp only at hSw); go_simp); (try with_reducible rfl); done)) | fail
              try simp only [Act.put, List.getElem_toArray, List.getElem_cons_zero, List.getElem_cons_succ, List.setIfInBounds_toArray, List.set_cons_zero, List.set_cons_succ]
              refine wpAnyH_take (i := 25) (v := ?_) rfl (by kernel_rfl) (by kernel_rfl) (by kernel_rfl) (fun _ _ _ h => h) (Or.inl ⟨by rfl, ?_⟩) (by assumption) ?_
              rotate_left
              first | (focus ((intro w hSw; (try dsimp only at hSw); go_simp); (try with_reducible rfl); done)) | fail
              try simp only [Act.put, List.getElem_toArray, List.getElem_cons_zero, List.getElem_cons_succ, List.setIfInBounds_toArray, List.set_cons_zero, List.set_cons_succ]
              refine wpAnyH_take (i := 26) (v := ?_) rfl (by kernel_rfl) (by kernel_rfl) (by kernel_rfl) (fun _ _ _ h => h) (Or.inl ⟨by rfl, ?_⟩) (by assumption) ?_
              rotate_left
              first | (focus ((intro w hSw; (try dsimp only at hSw); go_simp); (try with_reducible rfl); done)) | fail
              try simp only [Act.put, List.getElem_toArray, List.getElem_cons_zero, List.getElem_cons_succ, List.setIfInBounds_toArray, List.set_cons_zero, List.set_cons_succ]
              refine wpAnyH_take (i := 27) (v := ?_) rfl (by kernel_rfl) (by kernel_rfl) (by kernel_rfl) (fun _ _ _ h => h) (Or.inl ⟨by rfl, ?_⟩) (by assumption) ?_
              rotate_left
              first | (focus ((intro w hSw; (try dsimp only at hSw); go_simp); (try with_reducible rfl); done)) | fail
              try simp only [Act.put, List.getElem_toArray, List.getElem_cons_zero, List.getElem_cons_succ, List.setIfInBounds_toArray, List.set_cons_zero, List.set_cons_succ]
              refine wpAnyH_take (i := 28) (v := ?_) rfl (by kernel_rfl) (by kernel_rfl) (by kernel_rfl) (fun _ _ _ h => h) (Or.inl ⟨by rfl, ?_⟩) (by assumption) ?_
              rotate_left
              first | (focus ((intro w hSw; (try dsimp only at hSw); go_simp); (try with_reducible rfl); done)) | fail
              try simp only [Act.put, List.getElem_toArray, List.getElem_cons_zero, List.getElem_cons_succ, List.setIfInBounds_toArray, List.set_cons_zero, List.set_cons_succ]
              refine wpAnyH_take (i := 29) (v := ?_) rfl (by kernel_rfl) (by kernel_rfl) (by kernel_rfl) (fun _ _ _ h => h) (Or.inl ⟨by rfl, ?_⟩) (by assumption) ?_
              rotate_left
              first | (focus ((intro w hSw; (try dsimp only at hSw); go_simp); (try with_reducible rfl); done)) | fail
              try simp only [Act.put, List.getElem_toArray, List.getElem_cons_zero, List.getElem_cons_succ, List.setIfInBounds_toArray, List.set_cons_zero, List.set_cons_succ]
              refine wpAnyH_take (i := 30) (v := ?_) rfl (by kernel_rfl) (by kernel_rfl) (by kernel_rfl) (fun _ _ _ h => h) (Or.inl ⟨by rfl, ?_⟩) (by assumption) ?_
              rotate_left
              first | (focus ((intro w hSw; (try dsimp only at hSw); go_simp); (try with_reducible rfl); done)) | fail
              try simp only [Act.put, List.getElem_toArray, List.getElem_cons_zero, List.getElem_cons_succ, List.setIfInBounds_toArray, List.set_cons_zero, List.set_cons_succ]
              refine wpAnyH_take (i := 31) (v := ?_) rfl (by kernel_rfl) (by kernel_rfl) (by kernel_rfl) (fun _ _ _ h => h) (Or.inl ⟨by rfl, ?_⟩) (by assumption) ?_
              rotate_left
              first | (focus ((intro w hSw; (try dsimp only at hSw); go_simp); (try with_reducible rfl); done)) | fail
              try simp only [Act.put, List.getElem_toArray, List.getElem_cons_zero, List.getElem_cons_succ, List.setIfInBounds_toArray, List.set_cons_zero, List.set_cons_succ]
              refine wpAnyH_take (i := 32) (v := ?_) rfl (by kernel_rfl) (by kernel_rfl) (by kernel_rfl) (fun _ _ _ h => h) (Or.inl ⟨by rfl, ?_⟩) (by assumption) ?_
              rotate_left
              first | (focus ((intro w hSw; (try dsimp only at hSw); go_simp); (try with_reducible rfl); done)) | fail
              try simp only [Act.put, List.getElem_toArray, List.getElem_cons_zero, List.getElem_cons_succ, List.setIfInBounds_toArray, List.set_cons_zero, List.set_cons_succ]
              refine wpAnyH_take (i := 33) (v := ?_) rfl (by kernel_rfl) (by kernel_rfl) (by kernel_rfl) (fun _ _ _ h => h) (Or.inl ⟨by rfl, ?_⟩) (by assumption) ?_
              rotate_left
              first | (focus ((intro w hSw; (try dsimp only at hSw); go_simp); (try with_reducible rfl); done)) | fail
              try simp only [Act.put, List.getElem_toArray, List.getElem_cons_zero, List.getElem_cons_succ, List.setIfInBounds_toArray, List.set_cons_zero, List.set_cons_succ]
              refine wpAnyH_done (by kernel_rfl) ?_ _
              go_wp2
              go_ret
              exact ⟨by rw [HV.out, ovG_no HXj.out HX.out]; rfl, HEV1.out.2.2.1.drew.trans (below_of_le B5.out HEV1.out.2.2.2)⟩
            · have hs1 : decide (o3 ≤ x3) = false := decide_eq_false hs
              have HX := Lib.hid (show okP ((o1, o2), o3) (prevAt none L 0) ((x1, x2), x3) = true from by rw [HPV.out]; unfold okP; rw [hr', hq1, hs1]; rfl)
              clear hq1 hr'
              refine wp_region_held_drew (S := (fun W => W.cell? ⟨D, 0, none⟩ = some (.int .i64 x1) ∧ W.cell? ⟨D, 1, none⟩ = some (.int .i64 x2) ∧ W.cell? ⟨D, 2, none⟩ = some (.int .i64 x3) ∧ W.cell? ⟨w.heap.size, 0, none⟩ = some (.int .i64 o1) ∧ W.cell? ⟨w.heap.size, 1, none⟩ = some (.int .i64 o2) ∧ W.cell? ⟨w.heap.size, 2, none⟩ = some (.int .i64 o3) ∧ W.cell? ⟨w.heap.size, 18, none⟩ = some (.slice (some ⟨b0, o0, none⟩) n c))) (by kernel_rfl) ?_ (fun hHeld => ?_)
              · (try dsimp only); exact HS.out
              refine wpAnyH_take (i := 0) (v := ?_) rfl (by kernel_rfl) (by kernel_rfl) (by kernel_rfl) (fun _ _ _ h => h) (Or.inl ⟨by rfl, ?_⟩) (by assumption) ?_
              rotate_left
              first | (focus ((intro w hSw; (try dsimp only at hSw); go_simp); (try with_reducible rfl); done)) | fail
              try simp only [Act.put, List.getElem_toArray, List.getElem_cons_zero, List.setIfInBounds_toArray, List.set_cons_zero, List.set_cons_succ]
              refine wpAnyH_ready (rs := [1]) (by kernel_rfl) (by simp) ?_
              refine AllReadyH.cons rfl (fun K hK => ?_) AllReadyH.nil
              go_simp
              refine (CR.out _).mono ?_; rintro r w5 ⟨rfl, b5⟩
              go_wp2_with fail
              refine hK.out _ _ ?_ (fun hHeld => ?_)
              · (try dsimp only); exact ⟨((below_of_le b5 hN0).cell hDl).trans hHeld.1, ((below_of_le b5 hN0).cell hDl).trans hHeld.2.1, ((below_of_le b5 hN0).cell hDl).trans hHeld.2.2.1, ((below_of_le b5 hN0).cell hEl).trans hHeld.2.2.2.1, ((below_of_le b5 hN0).cell hEl).trans hHeld.2.2.2.2.1, ((below_of_le b5 hN0).cell hEl).trans hHeld.2.2.2.2.2.1, ((below_of_le b5 hN0).cell hEl).trans hHeld.2.2.2.2.2.2⟩
              clear hK K
              try simp only [Act.put, List.getElem_toArray, List.getElem_cons_zero, List.getElem_cons_succ, List.setIfInBounds_toArray, List.set_cons_zero, List.set_cons_succ]
              have B5 := Lib.hid (below_of_le b5 hN0)
              clear b5
              refine wpAnyH_take (i := 2) (v := ?_) rfl (by kernel_rfl) (by kernel_rfl) (by kernel_rfl) (fun _ _ _ h => h) (Or.inl ⟨by rfl, ?_⟩) (by assumption) ?_
              rotate_left
              first | (focus ((intro w hSw; (try dsimp only at hSw); go_simp); (try with_reducible rfl); done)) | fail
              try simp only [Act.put, List.getElem_toArray, List.getElem_cons_zero, List.getElem_cons_succ, List.setIfInBounds_toArray, List.set_cons_zero, List.set_cons_succ]
              refine wpAnyH_take (i := 3) (v := ?_) rfl (by kernel_rfl) (by kernel_rfl) (by kernel_rfl) (fun _ _ _ h => h) (Or.inl ⟨by rfl, ?_⟩) (by assumption) ?_
              rotate_left
              first | (focus ((intro w hSw; (try dsimp only at hSw); go_simp); (try with_reducible rfl); done)) | fail
              try simp only [Act.put, List.getElem_toArray, List.getElem_cons_zero, List.getElem_cons_succ, List.setIfInBounds_toArray, List.set_cons_zero, List.set_cons_succ]
              refine wpAnyH_take (i := 4) (v := ?_) rfl (by kernel_rfl) (by kernel_rfl) (by kernel_rfl) (fun _ _ _ h => h) (Or.inl ⟨by rfl, ?_⟩) (by assumption) ?_
              rotate_left
              first | (focus ((intro w hSw; (try dsimp only at hSw); go_simp); (try with_reducible rfl); done)) | fail
              try simp only [Act.put, List.getElem_toArray, List.getElem_cons_zero, List.getElem_cons_succ, List.setIfInBounds_toArray, List.set_cons_zero, List.set_cons_succ]
              refine wpAnyH_take (i := 5) (v := ?_) rfl (by kernel_rfl) (by kernel_rfl) (by kernel_rfl) (fun _ _ _ h => h) (Or.inl ⟨by rfl, ?_⟩) (by assumption) ?_
              rotate_left
              first | (focus ((intro w hSw; (try dsimp only at hSw); go_simp); (try with_reducible rfl); done)) | fail
              try simp only [Act.put, List.getElem_toArray, List.getElem_cons_zero, List.getElem_cons_succ, List.setIfInBounds_toArray, List.set_cons_zero, List.set_cons_succ]
              refine wpAnyH_take (i := 6) (v := ?_) rfl (by kernel_rfl) (by kernel_rfl) (by kernel_rfl) (fun _ _ _ h => h) (Or.inl ⟨by rfl, ?_⟩) (by assumption) ?_
              rotate_left
              first | (focus ((intro w hSw; (try dsimp only at hSw); go_simp); (try with_reducible rfl); done)) | fail
              try simp only [Act.put, List.getElem_toArray, List.getElem_cons_zero, List.getElem_cons_succ, List.setIfInBounds_toArray, List.set_cons_zero, List.set_cons_succ]
              refine wpAnyH_take (i := 7) (v := undef) rfl (by kernel_rfl) (by kernel_rfl) (by kernel_rfl) (fun _ _ _ h => h) (Or.inr ⟨by rfl, rfl⟩) (by assumption) ?_
              try simp only [Act.put, List.getElem_toArray, List.getElem_cons_zero, List.getElem_cons_succ, List.setIfInBounds_toArray, List.set_cons_zero, List.set_cons_succ]
              refine wpAnyH_take (i := 8) (v := undef) rfl (by kernel_rfl) (by kernel_rfl) (by kernel_rfl) (fun _ _ _ h => h) (Or.inr ⟨by rfl, rfl⟩) (by assumption) ?_
              try simp only [Act.put, List.getElem_toArray, List.getElem_cons_zero, List.getElem_cons_succ, List.setIfInBounds_toArray, List.set_cons_zero, List.set_cons_succ]
              refine wpAnyH_take (i := 9) (v := undef) rfl (by kernel_rfl) (by kernel_rfl) (by kernel_rfl) (fun _ _ _ h => h) (Or.inr ⟨by rfl, rfl⟩) (by assumption) ?_
              try simp only [Act.put, List.getElem_toArray, List.getElem_cons_zero, List.getElem_cons_succ, List.setIfInBounds_toArray, List.set_cons_zero, List.set_cons_succ]
              refine wpAnyH_take (i := 10) (v := undef) rfl (by kernel_rfl) (by kernel_rfl) (by kernel_rfl) (fun _ _ _ h => h) (Or.inr ⟨by rfl, rfl⟩) (by assumption) ?_
              try simp only [Act.put, List.getElem_toArray, List.getElem_cons_zero, List.getElem_cons_succ, List.setIfInBounds_toArray, List.set_cons_zero, List.set_cons_succ]
              refine wpAnyH_take (i := 11) (v := undef) rfl (by kernel_rfl) (by kernel_rfl) (by kernel_rfl) (fun _ _ _ h => h) (Or.inr ⟨by rfl, rfl⟩) (by assumption) ?_
              try simp only [Act.put, List.getElem_toArray, List.getElem_cons_zero, List.getElem_cons_succ, List.setIfInBounds_toArray, List.set_cons_zero, List.set_cons_succ]
              refine wpAnyH_take (i := 12) (v := undef) rfl (by kernel_rfl) (by kernel_rfl) (by kernel_rfl) (fun _ _ _ h => h) (Or.inr ⟨by rfl, rfl⟩) (by assumption) ?_
              try simp only [Act.put, List.getElem_toArray, List.getElem_cons_zero, List.getElem_cons_succ, List.setIfInBounds_toArray, List.set_cons_zero, List.set_cons_succ]
              refine wpAnyH_take (i := 13) (v := undef) rfl (by kernel_rfl) (by kernel_rfl) (by kernel_rfl) (fun _ _ _ h => h) (Or.inr ⟨by rfl, rfl⟩) (by assumption) ?_
              try simp only [Act.put, List.getElem_toArray, List.getElem_cons_zero, List.getElem_cons_succ, List.setIfInBounds_toArray, List.set_cons_zero, List.set_cons_succ]
              refine wpAnyH_take (i := 14) (v := undef) rfl (by kernel_rfl) (by kernel_rfl) (by kernel_rfl) (fun _ _ _ h => h) (Or.inr ⟨by rfl, rfl⟩) (by assumption) ?_
              try simp only [Act.put, List.getElem_toArray, List.getElem_cons_zero, List.getElem_cons_succ, List.setIfInBounds_toArray, List.set_cons_zero, List.set_cons_succ]
              refine wpAnyH_take (i := 15) (v := undef) rfl (by kernel_rfl) (by kernel_rfl) (by kernel_rfl) (fun _ _ _ h => h) (Or.inr ⟨by rfl, rfl⟩) (by assumption) ?_
              try simp only [Act.put, List.getElem_toArray, List.getElem_cons_zero, List.getElem_cons_succ, List.setIfInBounds_toArray, List.set_cons_zero, List.set_cons_succ]
              refine wpAnyH_take (i := 16) (v := ?_) rfl (by kernel_rfl) (by kernel_rfl) (by kernel_rfl) (fun _ _ _ h => h) (Or.inl ⟨by rfl, ?_⟩) (by assumption) ?_
              rotate_left
              first | (focus ((intro w hSw; (try dsimp only at hSw); go_simp); (try with_reducible rfl); done)) | fail
              try simp only [Act.put, List.getElem_toArray, List.getElem_cons_zero, List.getElem_cons_succ, List.setIfInBounds_toArray, List.set_cons_zero, List.set_cons_succ]
              refine wpAnyH_take (i := 17) (v := ?_) rfl (by kernel_rfl) (by kernel_rfl) (by kernel_rfl) (fun _ _ _ h => h) (Or.inl ⟨by rfl, ?_⟩) (by assumption) ?_
              rotate_left
              first | (focus ((intro w hSw; (try dsimp only at hSw); go_simp); (try with_reducible rfl); done)) | fail
              try simp only [Act.put, List.getElem_toArray, List.getElem_cons_zero, List.getElem_cons_succ, List.setIfInBounds_toArray, List.set_cons_zero, List.set_cons_succ]
              refine wpAnyH_take (i := 18) (v := ?_) rfl (by kernel_rfl) (by kernel_rfl) (by kernel_rfl) (fun _ _ _ h => h) (Or.inl ⟨by rfl, ?_⟩) (by assumption) ?_
              rotate_left
              first | (focus ((intro w hSw; (try dsimp only at hSw); go_simp); (try with_reducible rfl); done)) | fail
              try simp only [Act.put, List.getElem_toArray, List.getElem_cons_zero, List.getElem_cons_succ, List.setIfInBounds_toArray, List.set_cons_zero, List.set_cons_succ]
              refine wpAnyH_take (i := 19) (v := ?_) rfl (by kernel_rfl) (by kernel_rfl) (by kernel_rfl) (fun _ _ _ h => h) (Or.inl ⟨by rfl, ?_⟩) (by assumption) ?_
              rotate_left
              first | (focus ((intro w hSw; (try dsimp only at hSw); go_simp); (try with_reducible rfl); done)) | fail
              try simp only [Act.put, List.getElem_toArray, List.getElem_cons_zero, List.getElem_cons_succ, List.setIfInBounds_toArray, List.set_cons_zero, List.set_cons_succ]
              refine wpAnyH_take (i := 20) (v := ?_) rfl (by kernel_rfl) (by kernel_rfl) (by kernel_rfl) (fun _ _ _ h => h) (Or.inl ⟨by rfl, ?_⟩) (by assumption) ?_
              rotate_left
              first | (focus ((intro w hSw; (try dsimp only at hSw); go_simp); (try with_reducible rfl); done)) | fail
              try simp only [Act.put, List.getElem_toArray, List.getElem_cons_zero, List.getElem_cons_succ, List.setIfInBounds_toArray, List.set_cons_zero, List.set_cons_succ]
              refine wpAnyH_take (i := 21) (v := ?_) rfl (by kernel_rfl) (by kernel_rfl) (by kernel_rfl) (fun _ _ _ h => h) (Or.inl ⟨by rfl, ?_⟩) (by assumption) ?_
              rotate_left
              first | (focus ((intro w hSw; (try dsimp only at hSw); go_simp); (try with_reducible rfl); done)) | fail
              try simp only [Act.put, List.getElem_toArray, List.getElem_cons_zero, List.getElem_cons_succ, List.setIfInBounds_toArray, List.set_cons_zero, List.set_cons_succ]
              refine wpAnyH_take (i := 22) (v := ?_) rfl (by kernel_rfl) (by kernel_rfl) (by kernel_rfl) (fun _ _ _ h => h) (Or.inl ⟨by rfl, ?_⟩) (by assumption) ?_
              rotate_left
              first | (focus ((intro w hSw; (try dsimp only at hSw); go_simp); (try with_reducible rfl); done)) | fail
              try simp only [Act.put, List.getElem_toArray, List.getElem_cons_zero, List.getElem_cons_succ, List.setIfInBounds_toArray, List.set_cons_zero, List.set_cons_succ]
              refine wpAnyH_take (i := 23) (v := ?_) rfl (by kernel_rfl) (by kernel_rfl) (by kernel_rfl) (fun _ _ _ h => h) (Or.inl ⟨by rfl, ?_⟩) (by assumption) ?_
              rotate_left
              first | (focus ((intro w hSw; (try dsimp only at hSw); go_simp); (try with_reducible rfl); done)) | fail
              try simp only [Act.put, List.getElem_toArray, List.getElem_cons_zero, List.getElem_cons_succ, List.setIfInBounds_toArray, List.set_cons_zero, List.set_cons_succ]
              refine wpAnyH_take (i := 24) (v := ?_) rfl (by kernel_rfl) (by kernel_rfl) (by kernel_rfl) (fun _ _ _ h => h) (Or.inl ⟨by rfl, ?_⟩) (by assumption) ?_
              rotate_left
              first | (focus ((intro w hSw; (try dsimp only at hSw); go_simp); (try with_reducible rfl); done)) | fail
              try simp only [Act.put, List.getElem_toArray, List.getElem_cons_zero, List.getElem_cons_succ, List.setIfInBounds_toArray, List.set_cons_zero, List.set_cons_succ]
              refine wpAnyH_take (i := 25) (v := ?_) rfl (by kernel_rfl) (by kernel_rfl) (by kernel_rfl) (fun _ _ _ h => h) (Or.inl ⟨by rfl, ?_⟩) (by assumption) ?_
              rotate_left
              first | (focus ((intro w hSw; (try dsimp only at hSw); go_simp); (try with_reducible rfl); done)) | fail
              try simp only [Act.put, List.getElem_toArray, List.getElem_cons_zero, List.getElem_cons_succ, List.setIfInBounds_toArray, List.set_cons_zero, List.set_cons_succ]
              refine wpAnyH_take (i := 26) (v := ?_) rfl (by kernel_rfl) (by kernel_rfl) (by kernel_rfl) (fun _ _ _ h => h) (Or.inl ⟨by rfl, ?_⟩) (by assumption) ?_
              rotate_left
              first | (focus ((intro w hSw; (try dsimp only at hSw); go_simp); (try with_reducible rfl); done)) | fail
              try simp only [Act.put, List.getElem_toArray, List.getElem_cons_zero, List.getElem_cons_succ, List.setIfInBounds_toArray, List.set_cons_zero, List.set_cons_succ]
              refine wpAnyH_take (i := 27) (v := ?_) rfl (by kernel_rfl) (by kernel_rfl) (by kernel_rfl) (fun _ _ _ h => h) (Or.inl ⟨by rfl, ?_⟩) (by assumption) ?_
              rotate_left
              first | (focus ((intro w hSw; (try dsimp only at hSw); go_simp); (try with_reducible rfl); done)) | fail
              try simp only [Act.put, List.getElem_toArray, List.getElem_cons_zero, List.getElem_cons_succ, List.setIfInBounds_toArray, List.set_cons_zero, List.set_cons_succ]
              refine wpAnyH_take (i := 28) (v := ?_) rfl (by kernel_rfl) (by kernel_rfl) (by kernel_rfl) (fun _ _ _ h => h) (Or.inl ⟨by rfl, ?_⟩) (by assumption) ?_
              rotate_left
              first | (focus ((intro w hSw; (try dsimp only at hSw); go_simp); (try with_reducible rfl); done)) | fail
              try simp only [Act.put, List.getElem_toArray, List.getElem_cons_zero, List.getElem_cons_succ, List.setIfInBounds_toArray, List.set_cons_zero, List.set_cons_succ]
              refine wpAnyH_take (i := 29) (v := ?_) rfl (by kernel_rfl) (by kernel_rfl) (by kernel_rfl) (fun _ _ _ h => h) (Or.inl ⟨by rfl, ?_⟩) (by assumption) ?_
              rotate_left
              first | (focus ((intro w hSw; (try dsimp only at hSw); go_simp); (try with_reducible rfl); done)) | fail
              try simp only [Act.put, List.getElem_toArray, List.getElem_cons_zero, List.getElem_cons_succ, List.setIfInBounds_toArray, List.set_cons_zero, List.set_cons_succ]
              refine wpAnyH_take (i := 30) (v := ?_) rfl (by kernel_rfl) (by kernel_rfl) (by kernel_rfl) (fun _ _ _ h => h) (Or.inl ⟨by rfl, ?_⟩) (by assumption) ?_
              rotate_left
              first | (focus ((intro w hSw; (try dsimp only at hSw); go_simp); (try with_reducible rfl); done)) | fail
              try simp only [Act.put, List.getElem_toArray, List.getElem_cons_zero, List.getElem_cons_succ, List.setIfInBounds_toArray, List.set_cons_zero, List.set_cons_succ]
              refine wpAnyH_take (i := 31) (v := ?_) rfl (by kernel_rfl) (by kernel_rfl) (by kernel_rfl) (fun _ _ _ h => h) (Or.inl ⟨by rfl, ?_⟩) (by assumption) ?_
              rotate_left
              first | (focus ((intro w hSw; (try dsimp only at hSw); go_simp); (try with_reducible rfl); done)) | fail
              try simp only [Act.put, List.getElem_toArray, List.getElem_cons_zero, List.getElem_cons_succ, List.setIfInBounds_toArray, List.set_cons_zero, List.set_cons_succ]
              refine wpAnyH_take (i := 32) (v := ?_) rfl (by kernel_rfl) (by kernel_rfl) (by kernel_rfl) (fun _ _ _ h => h) (Or.inl ⟨by rfl, ?_⟩) (by assumption) ?_
              rotate_left
              first | (focus ((intro w hSw; (try dsimp only at hSw); go_simp); (try with_reducible rfl); done)) | fail
              try simp only [Act.put, List.getElem_toArray, List.getElem_cons_zero, List.getElem_cons_succ, List.setIfInBounds_toArray, List.set_cons_zero, List.set_cons_succ]
              refine wpAnyH_take (i := 33) (v := ?_) rfl (by kernel_rfl) (by kernel_rfl) (by kernel_rfl) (fun _ _ _ h => h) (Or.inl ⟨by rfl, ?_⟩) (by assumption) ?_
              rotate_left
              first | (focus ((intro w hSw; (try dsimp only at hSw); go_simp); (try with_reducible rfl); done)) | fail
              try simp only [Act.put, List.getElem_toArray, List.getElem_cons_zero, List.getElem_cons_succ, List.setIfInBounds_toArray, List.set_cons_zero, List.set_cons_succ]
              refine wpAnyH_done (by kernel_rfl) ?_ _
              go_wp2
              go_roundw
              case rel => exact ⟨_, by omega, by go_num, ok_step HK.out.1 HXj.out HX.out, HEV1.out.drew.step B5.out⟩
              case measure => simp [intOf]; omega
          · have hEq : ∀ w : World, (binOp .eql 48 (.agg #[.int .i64 x1, .int .i64 x2]) (.agg #[.int .i64 o1, .int .i64 o2])).run Tryz.prog w = .ok (.bool false) w := fun w => by have h := eql_act x1 x2 o1 o2 w; unfold actV at h; rw [decide_eq_false hq] at h; exact h
            have hq1 : decide (((x1, x2) : Ac) = (o1, o2)) = false := decide_eq_false (fun e => hq ⟨congrArg Prod.fst e, congrArg Prod.snd e⟩)
            clear hq
            have HX := Lib.hid (show okP ((o1, o2), o3) (prevAt none L 0) ((x1, x2), x3) = true from by rw [HPV.out]; unfold okP; rw [hr', hq1]; rfl)
            clear hq1 hr'
            refine wp_region_held_drew (S := (fun W => W.cell? ⟨D, 0, none⟩ = some (.int .i64 x1) ∧ W.cell? ⟨D, 1, none⟩ = some (.int .i64 x2) ∧ W.cell? ⟨D, 2, none⟩ = some (.int .i64 x3) ∧ W.cell? ⟨w.heap.size, 0, none⟩ = some (.int .i64 o1) ∧ W.cell? ⟨w.heap.size, 1, none⟩ = some (.int .i64 o2) ∧ W.cell? ⟨w.heap.size, 2, none⟩ = some (.int .i64 o3) ∧ W.cell? ⟨w.heap.size, 18, none⟩ = some (.slice (some ⟨b0, o0, none⟩) n c))) (by kernel_rfl) ?_ (fun hHeld => ?_)
            · (try dsimp only); exact HS.out
            refine wpAnyH_take (i := 0) (v := ?_) rfl (by kernel_rfl) (by kernel_rfl) (by kernel_rfl) (fun _ _ _ h => h) (Or.inl ⟨by rfl, ?_⟩) (by assumption) ?_
            rotate_left
            first | (focus ((intro w hSw; (try dsimp only at hSw); go_simp); (try with_reducible rfl); done)) | fail
            try simp only [Act.put, List.getElem_toArray, List.getElem_cons_zero, List.setIfInBounds_toArray, List.set_cons_zero, List.set_cons_succ]
            refine wpAnyH_ready (rs := [1]) (by kernel_rfl) (by simp) ?_
            refine AllReadyH.cons rfl (fun K hK => ?_) AllReadyH.nil
            go_simp
            refine (CR.out _).mono ?_; rintro r w5 ⟨rfl, b5⟩
            go_wp2_with fail
            refine hK.out _ _ ?_ (fun hHeld => ?_)
            · (try dsimp only); exact ⟨((below_of_le b5 hN0).cell hDl).trans hHeld.1, ((below_of_le b5 hN0).cell hDl).trans hHeld.2.1, ((below_of_le b5 hN0).cell hDl).trans hHeld.2.2.1, ((below_of_le b5 hN0).cell hEl).trans hHeld.2.2.2.1, ((below_of_le b5 hN0).cell hEl).trans hHeld.2.2.2.2.1, ((below_of_le b5 hN0).cell hEl).trans hHeld.2.2.2.2.2.1, ((below_of_le b5 hN0).cell hEl).trans hHeld.2.2.2.2.2.2⟩
            clear hK K
            try simp only [Act.put, List.getElem_toArray, List.getElem_cons_zero, List.getElem_cons_succ, List.setIfInBounds_toArray, List.set_cons_zero, List.set_cons_succ]
            have B5 := Lib.hid (below_of_le b5 hN0)
            clear b5
            refine wpAnyH_take (i := 2) (v := ?_) rfl (by kernel_rfl) (by kernel_rfl) (by kernel_rfl) (fun _ _ _ h => h) (Or.inl ⟨by rfl, ?_⟩) (by assumption) ?_
            rotate_left
            first | (focus ((intro w hSw; (try dsimp only at hSw); go_simp); (try with_reducible rfl); done)) | fail
            try simp only [Act.put, List.getElem_toArray, List.getElem_cons_zero, List.getElem_cons_succ, List.setIfInBounds_toArray, List.set_cons_zero, List.set_cons_succ]
            refine wpAnyH_take (i := 3) (v := ?_) rfl (by kernel_rfl) (by kernel_rfl) (by kernel_rfl) (fun _ _ _ h => h) (Or.inl ⟨by rfl, ?_⟩) (by assumption) ?_
            rotate_left
            first | (focus ((intro w hSw; (try dsimp only at hSw); go_simp); (try with_reducible rfl); done)) | fail
            try simp only [Act.put, List.getElem_toArray, List.getElem_cons_zero, List.getElem_cons_succ, List.setIfInBounds_toArray, List.set_cons_zero, List.set_cons_succ]
            refine wpAnyH_take (i := 4) (v := ?_) rfl (by kernel_rfl) (by kernel_rfl) (by kernel_rfl) (fun _ _ _ h => h) (Or.inl ⟨by rfl, ?_⟩) (by assumption) ?_
            rotate_left
            first | (focus ((intro w hSw; (try dsimp only at hSw); go_simp); (try with_reducible rfl); done)) | fail
            try simp only [Act.put, List.getElem_toArray, List.getElem_cons_zero, List.getElem_cons_succ, List.setIfInBounds_toArray, List.set_cons_zero, List.set_cons_succ]
            refine wpAnyH_take (i := 5) (v := ?_) rfl (by kernel_rfl) (by kernel_rfl) (by kernel_rfl) (fun _ _ _ h => h) (Or.inl ⟨by rfl, ?_⟩) (by assumption) ?_
            rotate_left
            first | (focus ((intro w hSw; (try dsimp only at hSw); go_simp); (try with_reducible rfl); done)) | fail
            try simp only [Act.put, List.getElem_toArray, List.getElem_cons_zero, List.getElem_cons_succ, List.setIfInBounds_toArray, List.set_cons_zero, List.set_cons_succ]
            refine wpAnyH_take (i := 6) (v := ?_) rfl (by kernel_rfl) (by kernel_rfl) (by kernel_rfl) (fun _ _ _ h => h) (Or.inl ⟨by rfl, ?_⟩) (by assumption) ?_
            rotate_left
            first | (focus ((intro w hSw; (try dsimp only at hSw); go_simp); (try with_reducible rfl); done)) | fail
            try simp only [Act.put, List.getElem_toArray, List.getElem_cons_zero, List.getElem_cons_succ, List.setIfInBounds_toArray, List.set_cons_zero, List.set_cons_succ]
            refine wpAnyH_take (i := 7) (v := undef) rfl (by kernel_rfl) (by kernel_rfl) (by kernel_rfl) (fun _ _ _ h => h) (Or.inr ⟨by rfl, rfl⟩) (by assumption) ?_
            try simp only [Act.put, List.getElem_toArray, List.getElem_cons_zero, List.getElem_cons_succ, List.setIfInBounds_toArray, List.set_cons_zero, List.set_cons_succ]
            refine wpAnyH_take (i := 8) (v := undef) rfl (by kernel_rfl) (by kernel_rfl) (by kernel_rfl) (fun _ _ _ h => h) (Or.inr ⟨by rfl, rfl⟩) (by assumption) ?_
            try simp only [Act.put, List.getElem_toArray, List.getElem_cons_zero, List.getElem_cons_succ, List.setIfInBounds_toArray, List.set_cons_zero, List.set_cons_succ]
            refine wpAnyH_take (i := 9) (v := undef) rfl (by kernel_rfl) (by kernel_rfl) (by kernel_rfl) (fun _ _ _ h => h) (Or.inr ⟨by rfl, rfl⟩) (by assumption) ?_
            try simp only [Act.put, List.getElem_toArray, List.getElem_cons_zero, List.getElem_cons_succ, List.setIfInBounds_toArray, List.set_cons_zero, List.set_cons_succ]
            refine wpAnyH_take (i := 10) (v := undef) rfl (by kernel_rfl) (by kernel_rfl) (by kernel_rfl) (fun _ _ _ h => h) (Or.inr ⟨by rfl, rfl⟩) (by assumption) ?_
            try simp only [Act.put, List.getElem_toArray, List.getElem_cons_zero, List.getElem_cons_succ, List.setIfInBounds_toArray, List.set_cons_zero, List.set_cons_succ]
            refine wpAnyH_take (i := 11) (v := undef) rfl (by kernel_rfl) (by kernel_rfl) (by kernel_rfl) (fun _ _ _ h => h) (Or.inr ⟨by rfl, rfl⟩) (by assumption) ?_
            try simp only [Act.put, List.getElem_toArray, List.getElem_cons_zero, List.getElem_cons_succ, List.setIfInBounds_toArray, List.set_cons_zero, List.set_cons_succ]
            refine wpAnyH_take (i := 12) (v := undef) rfl (by kernel_rfl) (by kernel_rfl) (by kernel_rfl) (fun _ _ _ h => h) (Or.inr ⟨by rfl, rfl⟩) (by assumption) ?_
            try simp only [Act.put, List.getElem_toArray, List.getElem_cons_zero, List.getElem_cons_succ, List.setIfInBounds_toArray, List.set_cons_zero, List.set_cons_succ]
            refine wpAnyH_take (i := 13) (v := undef) rfl (by kernel_rfl) (by kernel_rfl) (by kernel_rfl) (fun _ _ _ h => h) (Or.inr ⟨by rfl, rfl⟩) (by assumption) ?_
            try simp only [Act.put, List.getElem_toArray, List.getElem_cons_zero, List.getElem_cons_succ, List.setIfInBounds_toArray, List.set_cons_zero, List.set_cons_succ]
            refine wpAnyH_take (i := 14) (v := undef) rfl (by kernel_rfl) (by kernel_rfl) (by kernel_rfl) (fun _ _ _ h => h) (Or.inr ⟨by rfl, rfl⟩) (by assumption) ?_
            try simp only [Act.put, List.getElem_toArray, List.getElem_cons_zero, List.getElem_cons_succ, List.setIfInBounds_toArray, List.set_cons_zero, List.set_cons_succ]
            refine wpAnyH_take (i := 15) (v := undef) rfl (by kernel_rfl) (by kernel_rfl) (by kernel_rfl) (fun _ _ _ h => h) (Or.inr ⟨by rfl, rfl⟩) (by assumption) ?_
            try simp only [Act.put, List.getElem_toArray, List.getElem_cons_zero, List.getElem_cons_succ, List.setIfInBounds_toArray, List.set_cons_zero, List.set_cons_succ]
            refine wpAnyH_take (i := 16) (v := ?_) rfl (by kernel_rfl) (by kernel_rfl) (by kernel_rfl) (fun _ _ _ h => h) (Or.inl ⟨by rfl, ?_⟩) (by assumption) ?_
            rotate_left
            first | (focus ((intro w hSw; (try dsimp only at hSw); go_simp); (try with_reducible rfl); done)) | fail
            try simp only [Act.put, List.getElem_toArray, List.getElem_cons_zero, List.getElem_cons_succ, List.setIfInBounds_toArray, List.set_cons_zero, List.set_cons_succ]
            refine wpAnyH_take (i := 17) (v := ?_) rfl (by kernel_rfl) (by kernel_rfl) (by kernel_rfl) (fun _ _ _ h => h) (Or.inl ⟨by rfl, ?_⟩) (by assumption) ?_
            rotate_left
            first | (focus ((intro w hSw; (try dsimp only at hSw); go_simp); (try with_reducible rfl); done)) | fail
            try simp only [Act.put, List.getElem_toArray, List.getElem_cons_zero, List.getElem_cons_succ, List.setIfInBounds_toArray, List.set_cons_zero, List.set_cons_succ]
            refine wpAnyH_take (i := 18) (v := ?_) rfl (by kernel_rfl) (by kernel_rfl) (by kernel_rfl) (fun _ _ _ h => h) (Or.inl ⟨by rfl, ?_⟩) (by assumption) ?_
            rotate_left
            first | (focus ((intro w hSw; (try dsimp only at hSw); go_simp); (try with_reducible rfl); done)) | fail
            try simp only [Act.put, List.getElem_toArray, List.getElem_cons_zero, List.getElem_cons_succ, List.setIfInBounds_toArray, List.set_cons_zero, List.set_cons_succ]
            refine wpAnyH_take (i := 19) (v := ?_) rfl (by kernel_rfl) (by kernel_rfl) (by kernel_rfl) (fun _ _ _ h => h) (Or.inl ⟨by rfl, ?_⟩) (by assumption) ?_
            rotate_left
            first | (focus ((intro w hSw; (try dsimp only at hSw); go_simp); (try with_reducible rfl); done)) | fail
            try simp only [Act.put, List.getElem_toArray, List.getElem_cons_zero, List.getElem_cons_succ, List.setIfInBounds_toArray, List.set_cons_zero, List.set_cons_succ]
            refine wpAnyH_take (i := 20) (v := ?_) rfl (by kernel_rfl) (by kernel_rfl) (by kernel_rfl) (fun _ _ _ h => h) (Or.inl ⟨by rfl, ?_⟩) (by assumption) ?_
            rotate_left
            first | (focus ((intro w hSw; (try dsimp only at hSw); go_simp); (try with_reducible rfl); done)) | fail
            try simp only [Act.put, List.getElem_toArray, List.getElem_cons_zero, List.getElem_cons_succ, List.setIfInBounds_toArray, List.set_cons_zero, List.set_cons_succ]
            refine wpAnyH_take (i := 21) (v := ?_) rfl (by kernel_rfl) (by kernel_rfl) (by kernel_rfl) (fun _ _ _ h => h) (Or.inl ⟨by rfl, ?_⟩) (by assumption) ?_
            rotate_left
            first | (focus ((intro w hSw; (try dsimp only at hSw); go_simp); (try with_reducible rfl); done)) | fail
            try simp only [Act.put, List.getElem_toArray, List.getElem_cons_zero, List.getElem_cons_succ, List.setIfInBounds_toArray, List.set_cons_zero, List.set_cons_succ]
            refine wpAnyH_take (i := 22) (v := ?_) rfl (by kernel_rfl) (by kernel_rfl) (by kernel_rfl) (fun _ _ _ h => h) (Or.inl ⟨by rfl, ?_⟩) (by assumption) ?_
            rotate_left
            first | (focus ((intro w hSw; (try dsimp only at hSw); go_simp); (try with_reducible rfl); done)) | fail
            try simp only [Act.put, List.getElem_toArray, List.getElem_cons_zero, List.getElem_cons_succ, List.setIfInBounds_toArray, List.set_cons_zero, List.set_cons_succ]
            refine wpAnyH_take (i := 23) (v := ?_) rfl (by kernel_rfl) (by kernel_rfl) (by kernel_rfl) (fun _ _ _ h => h) (Or.inl ⟨by rfl, ?_⟩) (by assumption) ?_
            rotate_left
            first | (focus ((intro w hSw; (try dsimp only at hSw); go_simp); (try with_reducible rfl); done)) | fail
            try simp only [Act.put, List.getElem_toArray, List.getElem_cons_zero, List.getElem_cons_succ, List.setIfInBounds_toArray, List.set_cons_zero, List.set_cons_succ]
            refine wpAnyH_take (i := 24) (v := ?_) rfl (by kernel_rfl) (by kernel_rfl) (by kernel_rfl) (fun _ _ _ h => h) (Or.inl ⟨by rfl, ?_⟩) (by assumption) ?_
            rotate_left
            first | (focus ((intro w hSw; (try dsimp only at hSw); go_simp); (try with_reducible rfl); done)) | fail
            try simp only [Act.put, List.getElem_toArray, List.getElem_cons_zero, List.getElem_cons_succ, List.setIfInBounds_toArray, List.set_cons_zero, List.set_cons_succ]
            refine wpAnyH_take (i := 25) (v := ?_) rfl (by kernel_rfl) (by kernel_rfl) (by kernel_rfl) (fun _ _ _ h => h) (Or.inl ⟨by rfl, ?_⟩) (by assumption) ?_
            rotate_left
            first | (focus ((intro w hSw; (try dsimp only at hSw); go_simp); (try with_reducible rfl); done)) | fail
            try simp only [Act.put, List.getElem_toArray, List.getElem_cons_zero, List.getElem_cons_succ, List.setIfInBounds_toArray, List.set_cons_zero, List.set_cons_succ]
            refine wpAnyH_take (i := 26) (v := undef) rfl (by kernel_rfl) (by kernel_rfl) (by kernel_rfl) (fun _ _ _ h => h) (Or.inr ⟨by rfl, rfl⟩) (by assumption) ?_
            try simp only [Act.put, List.getElem_toArray, List.getElem_cons_zero, List.getElem_cons_succ, List.setIfInBounds_toArray, List.set_cons_zero, List.set_cons_succ]
            refine wpAnyH_take (i := 27) (v := undef) rfl (by kernel_rfl) (by kernel_rfl) (by kernel_rfl) (fun _ _ _ h => h) (Or.inr ⟨by rfl, rfl⟩) (by assumption) ?_
            try simp only [Act.put, List.getElem_toArray, List.getElem_cons_zero, List.getElem_cons_succ, List.setIfInBounds_toArray, List.set_cons_zero, List.set_cons_succ]
            refine wpAnyH_take (i := 28) (v := undef) rfl (by kernel_rfl) (by kernel_rfl) (by kernel_rfl) (fun _ _ _ h => h) (Or.inr ⟨by rfl, rfl⟩) (by assumption) ?_
            try simp only [Act.put, List.getElem_toArray, List.getElem_cons_zero, List.getElem_cons_succ, List.setIfInBounds_toArray, List.set_cons_zero, List.set_cons_succ]
            refine wpAnyH_take (i := 29) (v := undef) rfl (by kernel_rfl) (by kernel_rfl) (by kernel_rfl) (fun _ _ _ h => h) (Or.inr ⟨by rfl, rfl⟩) (by assumption) ?_
            try simp only [Act.put, List.getElem_toArray, List.getElem_cons_zero, List.getElem_cons_succ, List.setIfInBounds_toArray, List.set_cons_zero, List.set_cons_succ]
            refine wpAnyH_take (i := 30) (v := undef) rfl (by kernel_rfl) (by kernel_rfl) (by kernel_rfl) (fun _ _ _ h => h) (Or.inr ⟨by rfl, rfl⟩) (by assumption) ?_
            try simp only [Act.put, List.getElem_toArray, List.getElem_cons_zero, List.getElem_cons_succ, List.setIfInBounds_toArray, List.set_cons_zero, List.set_cons_succ]
            refine wpAnyH_take (i := 31) (v := undef) rfl (by kernel_rfl) (by kernel_rfl) (by kernel_rfl) (fun _ _ _ h => h) (Or.inr ⟨by rfl, rfl⟩) (by assumption) ?_
            try simp only [Act.put, List.getElem_toArray, List.getElem_cons_zero, List.getElem_cons_succ, List.setIfInBounds_toArray, List.set_cons_zero, List.set_cons_succ]
            refine wpAnyH_take (i := 32) (v := ?_) rfl (by kernel_rfl) (by kernel_rfl) (by kernel_rfl) (fun _ _ _ h => h) (Or.inl ⟨by rfl, ?_⟩) (by assumption) ?_
            rotate_left
            first | (focus ((intro w hSw; (try dsimp only at hSw); go_simp); (try with_reducible rfl); done)) | fail
            try simp only [Act.put, List.getElem_toArray, List.getElem_cons_zero, List.getElem_cons_succ, List.setIfInBounds_toArray, List.set_cons_zero, List.set_cons_succ]
            refine wpAnyH_take (i := 33) (v := ?_) rfl (by kernel_rfl) (by kernel_rfl) (by kernel_rfl) (fun _ _ _ h => h) (Or.inl ⟨by rfl, ?_⟩) (by assumption) ?_
            rotate_left
            first | (focus ((intro w hSw; (try dsimp only at hSw); go_simp); (try with_reducible rfl); done)) | fail
            try simp only [Act.put, List.getElem_toArray, List.getElem_cons_zero, List.getElem_cons_succ, List.setIfInBounds_toArray, List.set_cons_zero, List.set_cons_succ]
            refine wpAnyH_done (by kernel_rfl) ?_ _
            go_wp2
            go_roundw
            case rel => exact ⟨_, by omega, by go_num, ok_step HK.out.1 HXj.out HX.out, HEV1.out.drew.step B5.out⟩
            case measure => simp [intOf]; omega
      · obtain ⟨k, rfl⟩ : ∃ k, j = k + 1 := ⟨j - 1, by omega⟩
        obtain ⟨p, hp⟩ : ∃ p, L[k]? = some p := ⟨L[k]'(by have := HLn.out; omega), List.getElem?_eq_getElem _⟩
        obtain ⟨b1, o1', hA1', _, m0, m1, m2⟩ := Ds.at_ HEV1.out.2.1 hp
        obtain ⟨rfl, rfl⟩ : b0 = b1 ∧ o0 = o1' := by simpa using hA1'
        clear hA1'
        obtain ⟨⟨p1, p2⟩, p3⟩ := p
        simp only at m0 m1 m2
        have HPV := Lib.hid (show prevAt none L (k + 1) = some ((p1, p2), p3) by unfold prevAt; rw [if_neg (by omega)]; exact hp)
        clear hp
        have CL := Lib.hid (fun w => rless_dLt' p1 p2 p3 x1 x2 x3 w)
        unfold dotV at CL
        have yk : IntKind.i64.wrap (k : Int) = (k : Int) := IntWalk.i64_in _ (by omega)
        have yk2 : decide ((0 : Int) < (k : Int) + 1) = true := decide_eq_true (by omega)
        have hkn : k < n := by omega
        have HS := Lib.hid (And.intro HS.out.1 (And.intro HS.out.2.1 (And.intro HS.out.2.2.1 (And.intro HS.out.2.2.2.1 (And.intro HS.out.2.2.2.2.1 (And.intro HS.out.2.2.2.2.2.1 (And.intro HS.out.2.2.2.2.2.2 (And.intro m0 (And.intro m1 m2)))))))))
        clear m0 m1 m2
        cases hr : dotB x1 x2 x3 with
        | false =>
          rw [hr] at CR
          have hr' : rightD ((x1, x2), x3) = false := hr
          clear hr
          have HX := Lib.hid (show okP ((o1, o2), o3) (prevAt none L (k + 1)) ((x1, x2), x3) = false from by unfold okP; rw [hr']; rfl)
          clear hr'
          refine wp_region_held_drew (S := (fun W => W.cell? ⟨D, 0, none⟩ = some (.int .i64 x1) ∧ W.cell? ⟨D, 1, none⟩ = some (.int .i64 x2) ∧ W.cell? ⟨D, 2, none⟩ = some (.int .i64 x3) ∧ W.cell? ⟨w.heap.size, 0, none⟩ = some (.int .i64 o1) ∧ W.cell? ⟨w.heap.size, 1, none⟩ = some (.int .i64 o2) ∧ W.cell? ⟨w.heap.size, 2, none⟩ = some (.int .i64 o3) ∧ W.cell? ⟨w.heap.size, 18, none⟩ = some (.slice (some ⟨b0, o0, none⟩) n c) ∧ W.cell? ⟨b0, o0 + k * 3, none⟩ = some (.int .i64 p1) ∧ W.cell? ⟨b0, o0 + k * 3 + 1, none⟩ = some (.int .i64 p2) ∧ W.cell? ⟨b0, o0 + k * 3 + 2, none⟩ = some (.int .i64 p3))) (by kernel_rfl) ?_ (fun hHeld => ?_)
          · (try dsimp only); exact HS.out
          refine wpAnyH_take (i := 0) (v := ?_) rfl (by kernel_rfl) (by kernel_rfl) (by kernel_rfl) (fun _ _ _ h => h) (Or.inl ⟨by rfl, ?_⟩) (by assumption) ?_
          rotate_left
          first | (focus ((intro w hSw; (try dsimp only at hSw); go_simp); (try with_reducible rfl); done)) | fail
          try simp only [Act.put, List.getElem_toArray, List.getElem_cons_zero, List.setIfInBounds_toArray, List.set_cons_zero, List.set_cons_succ]
          refine wpAnyH_ready (rs := [1]) (by kernel_rfl) (by simp) ?_
          refine AllReadyH.cons rfl (fun K hK => ?_) AllReadyH.nil
          go_simp
          refine (CR.out _).mono ?_; rintro r w5 ⟨rfl, b5⟩
          go_wp2_with fail
          refine hK.out _ _ ?_ (fun hHeld => ?_)
          · (try dsimp only); exact ⟨((below_of_le b5 hN0).cell hDl).trans hHeld.1, ((below_of_le b5 hN0).cell hDl).trans hHeld.2.1, ((below_of_le b5 hN0).cell hDl).trans hHeld.2.2.1, ((below_of_le b5 hN0).cell hEl).trans hHeld.2.2.2.1, ((below_of_le b5 hN0).cell hEl).trans hHeld.2.2.2.2.1, ((below_of_le b5 hN0).cell hEl).trans hHeld.2.2.2.2.2.1, ((below_of_le b5 hN0).cell hEl).trans hHeld.2.2.2.2.2.2.1, ((below_of_le b5 hN0).cell hbl).trans hHeld.2.2.2.2.2.2.2.1, ((below_of_le b5 hN0).cell hbl).trans hHeld.2.2.2.2.2.2.2.2.1, ((below_of_le b5 hN0).cell hbl).trans hHeld.2.2.2.2.2.2.2.2.2⟩
          clear hK K
          try simp only [Act.put, List.getElem_toArray, List.getElem_cons_zero, List.getElem_cons_succ, List.setIfInBounds_toArray, List.set_cons_zero, List.set_cons_succ]
          have B5 := Lib.hid (below_of_le b5 hN0)
          clear b5
          refine wpAnyH_take (i := 2) (v := ?_) rfl (by kernel_rfl) (by kernel_rfl) (by kernel_rfl) (fun _ _ _ h => h) (Or.inl ⟨by rfl, ?_⟩) (by assumption) ?_
          rotate_left
          first | (focus ((intro w hSw; (try dsimp only at hSw); go_simp); (try with_reducible rfl); done)) | fail
          try simp only [Act.put, List.getElem_toArray, List.getElem_cons_zero, List.getElem_cons_succ, List.setIfInBounds_toArray, List.set_cons_zero, List.set_cons_succ]
          refine wpAnyH_take (i := 3) (v := ?_) rfl (by kernel_rfl) (by kernel_rfl) (by kernel_rfl) (fun _ _ _ h => h) (Or.inl ⟨by rfl, ?_⟩) (by assumption) ?_
          rotate_left
          first | (focus ((intro w hSw; (try dsimp only at hSw); go_simp); (try with_reducible rfl); done)) | fail
          try simp only [Act.put, List.getElem_toArray, List.getElem_cons_zero, List.getElem_cons_succ, List.setIfInBounds_toArray, List.set_cons_zero, List.set_cons_succ]
          refine wpAnyH_take (i := 4) (v := undef) rfl (by kernel_rfl) (by kernel_rfl) (by kernel_rfl) (fun _ _ _ h => h) (Or.inr ⟨by rfl, rfl⟩) (by assumption) ?_
          try simp only [Act.put, List.getElem_toArray, List.getElem_cons_zero, List.getElem_cons_succ, List.setIfInBounds_toArray, List.set_cons_zero, List.set_cons_succ]
          refine wpAnyH_take (i := 5) (v := undef) rfl (by kernel_rfl) (by kernel_rfl) (by kernel_rfl) (fun _ _ _ h => h) (Or.inr ⟨by rfl, rfl⟩) (by assumption) ?_
          try simp only [Act.put, List.getElem_toArray, List.getElem_cons_zero, List.getElem_cons_succ, List.setIfInBounds_toArray, List.set_cons_zero, List.set_cons_succ]
          refine wpAnyH_take (i := 6) (v := undef) rfl (by kernel_rfl) (by kernel_rfl) (by kernel_rfl) (fun _ _ _ h => h) (Or.inr ⟨by rfl, rfl⟩) (by assumption) ?_
          try simp only [Act.put, List.getElem_toArray, List.getElem_cons_zero, List.getElem_cons_succ, List.setIfInBounds_toArray, List.set_cons_zero, List.set_cons_succ]
          refine wpAnyH_take (i := 7) (v := undef) rfl (by kernel_rfl) (by kernel_rfl) (by kernel_rfl) (fun _ _ _ h => h) (Or.inr ⟨by rfl, rfl⟩) (by assumption) ?_
          try simp only [Act.put, List.getElem_toArray, List.getElem_cons_zero, List.getElem_cons_succ, List.setIfInBounds_toArray, List.set_cons_zero, List.set_cons_succ]
          refine wpAnyH_take (i := 8) (v := undef) rfl (by kernel_rfl) (by kernel_rfl) (by kernel_rfl) (fun _ _ _ h => h) (Or.inr ⟨by rfl, rfl⟩) (by assumption) ?_
          try simp only [Act.put, List.getElem_toArray, List.getElem_cons_zero, List.getElem_cons_succ, List.setIfInBounds_toArray, List.set_cons_zero, List.set_cons_succ]
          refine wpAnyH_take (i := 9) (v := undef) rfl (by kernel_rfl) (by kernel_rfl) (by kernel_rfl) (fun _ _ _ h => h) (Or.inr ⟨by rfl, rfl⟩) (by assumption) ?_
          try simp only [Act.put, List.getElem_toArray, List.getElem_cons_zero, List.getElem_cons_succ, List.setIfInBounds_toArray, List.set_cons_zero, List.set_cons_succ]
          refine wpAnyH_take (i := 10) (v := undef) rfl (by kernel_rfl) (by kernel_rfl) (by kernel_rfl) (fun _ _ _ h => h) (Or.inr ⟨by rfl, rfl⟩) (by assumption) ?_
          try simp only [Act.put, List.getElem_toArray, List.getElem_cons_zero, List.getElem_cons_succ, List.setIfInBounds_toArray, List.set_cons_zero, List.set_cons_succ]
          refine wpAnyH_take (i := 11) (v := undef) rfl (by kernel_rfl) (by kernel_rfl) (by kernel_rfl) (fun _ _ _ h => h) (Or.inr ⟨by rfl, rfl⟩) (by assumption) ?_
          try simp only [Act.put, List.getElem_toArray, List.getElem_cons_zero, List.getElem_cons_succ, List.setIfInBounds_toArray, List.set_cons_zero, List.set_cons_succ]
          refine wpAnyH_take (i := 12) (v := undef) rfl (by kernel_rfl) (by kernel_rfl) (by kernel_rfl) (fun _ _ _ h => h) (Or.inr ⟨by rfl, rfl⟩) (by assumption) ?_
          try simp only [Act.put, List.getElem_toArray, List.getElem_cons_zero, List.getElem_cons_succ, List.setIfInBounds_toArray, List.set_cons_zero, List.set_cons_succ]
          refine wpAnyH_take (i := 13) (v := undef) rfl (by kernel_rfl) (by kernel_rfl) (by kernel_rfl) (fun _ _ _ h => h) (Or.inr ⟨by rfl, rfl⟩) (by assumption) ?_
          try simp only [Act.put, List.getElem_toArray, List.getElem_cons_zero, List.getElem_cons_succ, List.setIfInBounds_toArray, List.set_cons_zero, List.set_cons_succ]
          refine wpAnyH_take (i := 14) (v := undef) rfl (by kernel_rfl) (by kernel_rfl) (by kernel_rfl) (fun _ _ _ h => h) (Or.inr ⟨by rfl, rfl⟩) (by assumption) ?_
          try simp only [Act.put, List.getElem_toArray, List.getElem_cons_zero, List.getElem_cons_succ, List.setIfInBounds_toArray, List.set_cons_zero, List.set_cons_succ]
          refine wpAnyH_take (i := 15) (v := undef) rfl (by kernel_rfl) (by kernel_rfl) (by kernel_rfl) (fun _ _ _ h => h) (Or.inr ⟨by rfl, rfl⟩) (by assumption) ?_
          try simp only [Act.put, List.getElem_toArray, List.getElem_cons_zero, List.getElem_cons_succ, List.setIfInBounds_toArray, List.set_cons_zero, List.set_cons_succ]
          refine wpAnyH_take (i := 16) (v := undef) rfl (by kernel_rfl) (by kernel_rfl) (by kernel_rfl) (fun _ _ _ h => h) (Or.inr ⟨by rfl, rfl⟩) (by assumption) ?_
          try simp only [Act.put, List.getElem_toArray, List.getElem_cons_zero, List.getElem_cons_succ, List.setIfInBounds_toArray, List.set_cons_zero, List.set_cons_succ]
          refine wpAnyH_take (i := 17) (v := ?_) rfl (by kernel_rfl) (by kernel_rfl) (by kernel_rfl) (fun _ _ _ h => h) (Or.inl ⟨by rfl, ?_⟩) (by assumption) ?_
          rotate_left
          first | (focus ((intro w hSw; (try dsimp only at hSw); go_simp); (try with_reducible rfl); done)) | fail
          try simp only [Act.put, List.getElem_toArray, List.getElem_cons_zero, List.getElem_cons_succ, List.setIfInBounds_toArray, List.set_cons_zero, List.set_cons_succ]
          refine wpAnyH_take (i := 18) (v := ?_) rfl (by kernel_rfl) (by kernel_rfl) (by kernel_rfl) (fun _ _ _ h => h) (Or.inl ⟨by rfl, ?_⟩) (by assumption) ?_
          rotate_left
          first | (focus ((intro w hSw; (try dsimp only at hSw); go_simp); (try with_reducible rfl); done)) | fail
          try simp only [Act.put, List.getElem_toArray, List.getElem_cons_zero, List.getElem_cons_succ, List.setIfInBounds_toArray, List.set_cons_zero, List.set_cons_succ]
          refine wpAnyH_take (i := 19) (v := undef) rfl (by kernel_rfl) (by kernel_rfl) (by kernel_rfl) (fun _ _ _ h => h) (Or.inr ⟨by rfl, rfl⟩) (by assumption) ?_
          try simp only [Act.put, List.getElem_toArray, List.getElem_cons_zero, List.getElem_cons_succ, List.setIfInBounds_toArray, List.set_cons_zero, List.set_cons_succ]
          refine wpAnyH_take (i := 20) (v := undef) rfl (by kernel_rfl) (by kernel_rfl) (by kernel_rfl) (fun _ _ _ h => h) (Or.inr ⟨by rfl, rfl⟩) (by assumption) ?_
          try simp only [Act.put, List.getElem_toArray, List.getElem_cons_zero, List.getElem_cons_succ, List.setIfInBounds_toArray, List.set_cons_zero, List.set_cons_succ]
          refine wpAnyH_take (i := 21) (v := undef) rfl (by kernel_rfl) (by kernel_rfl) (by kernel_rfl) (fun _ _ _ h => h) (Or.inr ⟨by rfl, rfl⟩) (by assumption) ?_
          try simp only [Act.put, List.getElem_toArray, List.getElem_cons_zero, List.getElem_cons_succ, List.setIfInBounds_toArray, List.set_cons_zero, List.set_cons_succ]
          refine wpAnyH_take (i := 22) (v := undef) rfl (by kernel_rfl) (by kernel_rfl) (by kernel_rfl) (fun _ _ _ h => h) (Or.inr ⟨by rfl, rfl⟩) (by assumption) ?_
          try simp only [Act.put, List.getElem_toArray, List.getElem_cons_zero, List.getElem_cons_succ, List.setIfInBounds_toArray, List.set_cons_zero, List.set_cons_succ]
          refine wpAnyH_take (i := 23) (v := undef) rfl (by kernel_rfl) (by kernel_rfl) (by kernel_rfl) (fun _ _ _ h => h) (Or.inr ⟨by rfl, rfl⟩) (by assumption) ?_
          try simp only [Act.put, List.getElem_toArray, List.getElem_cons_zero, List.getElem_cons_succ, List.setIfInBounds_toArray, List.set_cons_zero, List.set_cons_succ]
          refine wpAnyH_take (i := 24) (v := undef) rfl (by kernel_rfl) (by kernel_rfl) (by kernel_rfl) (fun _ _ _ h => h) (Or.inr ⟨by rfl, rfl⟩) (by assumption) ?_
          try simp only [Act.put, List.getElem_toArray, List.getElem_cons_zero, List.getElem_cons_succ, List.setIfInBounds_toArray, List.set_cons_zero, List.set_cons_succ]
          refine wpAnyH_take (i := 25) (v := undef) rfl (by kernel_rfl) (by kernel_rfl) (by kernel_rfl) (fun _ _ _ h => h) (Or.inr ⟨by rfl, rfl⟩) (by assumption) ?_
          try simp only [Act.put, List.getElem_toArray, List.getElem_cons_zero, List.getElem_cons_succ, List.setIfInBounds_toArray, List.set_cons_zero, List.set_cons_succ]
          refine wpAnyH_take (i := 26) (v := undef) rfl (by kernel_rfl) (by kernel_rfl) (by kernel_rfl) (fun _ _ _ h => h) (Or.inr ⟨by rfl, rfl⟩) (by assumption) ?_
          try simp only [Act.put, List.getElem_toArray, List.getElem_cons_zero, List.getElem_cons_succ, List.setIfInBounds_toArray, List.set_cons_zero, List.set_cons_succ]
          refine wpAnyH_take (i := 27) (v := undef) rfl (by kernel_rfl) (by kernel_rfl) (by kernel_rfl) (fun _ _ _ h => h) (Or.inr ⟨by rfl, rfl⟩) (by assumption) ?_
          try simp only [Act.put, List.getElem_toArray, List.getElem_cons_zero, List.getElem_cons_succ, List.setIfInBounds_toArray, List.set_cons_zero, List.set_cons_succ]
          refine wpAnyH_take (i := 28) (v := undef) rfl (by kernel_rfl) (by kernel_rfl) (by kernel_rfl) (fun _ _ _ h => h) (Or.inr ⟨by rfl, rfl⟩) (by assumption) ?_
          try simp only [Act.put, List.getElem_toArray, List.getElem_cons_zero, List.getElem_cons_succ, List.setIfInBounds_toArray, List.set_cons_zero, List.set_cons_succ]
          refine wpAnyH_take (i := 29) (v := undef) rfl (by kernel_rfl) (by kernel_rfl) (by kernel_rfl) (fun _ _ _ h => h) (Or.inr ⟨by rfl, rfl⟩) (by assumption) ?_
          try simp only [Act.put, List.getElem_toArray, List.getElem_cons_zero, List.getElem_cons_succ, List.setIfInBounds_toArray, List.set_cons_zero, List.set_cons_succ]
          refine wpAnyH_take (i := 30) (v := undef) rfl (by kernel_rfl) (by kernel_rfl) (by kernel_rfl) (fun _ _ _ h => h) (Or.inr ⟨by rfl, rfl⟩) (by assumption) ?_
          try simp only [Act.put, List.getElem_toArray, List.getElem_cons_zero, List.getElem_cons_succ, List.setIfInBounds_toArray, List.set_cons_zero, List.set_cons_succ]
          refine wpAnyH_take (i := 31) (v := undef) rfl (by kernel_rfl) (by kernel_rfl) (by kernel_rfl) (fun _ _ _ h => h) (Or.inr ⟨by rfl, rfl⟩) (by assumption) ?_
          try simp only [Act.put, List.getElem_toArray, List.getElem_cons_zero, List.getElem_cons_succ, List.setIfInBounds_toArray, List.set_cons_zero, List.set_cons_succ]
          refine wpAnyH_take (i := 32) (v := undef) rfl (by kernel_rfl) (by kernel_rfl) (by kernel_rfl) (fun _ _ _ h => h) (Or.inr ⟨by rfl, rfl⟩) (by assumption) ?_
          try simp only [Act.put, List.getElem_toArray, List.getElem_cons_zero, List.getElem_cons_succ, List.setIfInBounds_toArray, List.set_cons_zero, List.set_cons_succ]
          refine wpAnyH_take (i := 33) (v := ?_) rfl (by kernel_rfl) (by kernel_rfl) (by kernel_rfl) (fun _ _ _ h => h) (Or.inl ⟨by rfl, ?_⟩) (by assumption) ?_
          rotate_left
          first | (focus ((intro w hSw; (try dsimp only at hSw); go_simp); (try with_reducible rfl); done)) | fail
          try simp only [Act.put, List.getElem_toArray, List.getElem_cons_zero, List.getElem_cons_succ, List.setIfInBounds_toArray, List.set_cons_zero, List.set_cons_succ]
          refine wpAnyH_done (by kernel_rfl) ?_ _
          go_wp2
          go_ret
          exact ⟨by rw [HV.out, ovG_no HXj.out HX.out]; rfl, HEV1.out.2.2.1.drew.trans (below_of_le B5.out HEV1.out.2.2.2)⟩
        | true =>
          rw [hr] at CR
          have hr' : rightD ((x1, x2), x3) = true := hr
          clear hr
          cases hl : dLt ((p1, p2), p3) ((x1, x2), x3) with
          | false =>
            rw [hl] at CL
            have hl0 : dLt ((p1, p2), p3) ((x1, x2), x3) = false := hl
            clear hl
            have HX := Lib.hid (show okP ((o1, o2), o3) (prevAt none L (k + 1)) ((x1, x2), x3) = false from by rw [HPV.out]; unfold okP; simp only; rw [hl0, Bool.and_false, Bool.false_and])
            clear hl0 hr'
            refine wp_region_held_drew (S := (fun W => W.cell? ⟨D, 0, none⟩ = some (.int .i64 x1) ∧ W.cell? ⟨D, 1, none⟩ = some (.int .i64 x2) ∧ W.cell? ⟨D, 2, none⟩ = some (.int .i64 x3) ∧ W.cell? ⟨w.heap.size, 0, none⟩ = some (.int .i64 o1) ∧ W.cell? ⟨w.heap.size, 1, none⟩ = some (.int .i64 o2) ∧ W.cell? ⟨w.heap.size, 2, none⟩ = some (.int .i64 o3) ∧ W.cell? ⟨w.heap.size, 18, none⟩ = some (.slice (some ⟨b0, o0, none⟩) n c) ∧ W.cell? ⟨b0, o0 + k * 3, none⟩ = some (.int .i64 p1) ∧ W.cell? ⟨b0, o0 + k * 3 + 1, none⟩ = some (.int .i64 p2) ∧ W.cell? ⟨b0, o0 + k * 3 + 2, none⟩ = some (.int .i64 p3))) (by kernel_rfl) ?_ (fun hHeld => ?_)
            · (try dsimp only); exact HS.out
            refine wpAnyH_take (i := 0) (v := ?_) rfl (by kernel_rfl) (by kernel_rfl) (by kernel_rfl) (fun _ _ _ h => h) (Or.inl ⟨by rfl, ?_⟩) (by assumption) ?_
            rotate_left
            first | (focus ((intro w hSw; (try dsimp only at hSw); go_simp); (try with_reducible rfl); done)) | fail
            try simp only [Act.put, List.getElem_toArray, List.getElem_cons_zero, List.setIfInBounds_toArray, List.set_cons_zero, List.set_cons_succ]
            refine wpAnyH_ready (rs := [1]) (by kernel_rfl) (by simp) ?_
            refine AllReadyH.cons rfl (fun K hK => ?_) AllReadyH.nil
            go_simp
            refine (CR.out _).mono ?_; rintro r w5 ⟨rfl, b5⟩
            go_wp2_with fail
            refine hK.out _ _ ?_ (fun hHeld => ?_)
            · (try dsimp only); exact ⟨((below_of_le b5 hN0).cell hDl).trans hHeld.1, ((below_of_le b5 hN0).cell hDl).trans hHeld.2.1, ((below_of_le b5 hN0).cell hDl).trans hHeld.2.2.1, ((below_of_le b5 hN0).cell hEl).trans hHeld.2.2.2.1, ((below_of_le b5 hN0).cell hEl).trans hHeld.2.2.2.2.1, ((below_of_le b5 hN0).cell hEl).trans hHeld.2.2.2.2.2.1, ((below_of_le b5 hN0).cell hEl).trans hHeld.2.2.2.2.2.2.1, ((below_of_le b5 hN0).cell hbl).trans hHeld.2.2.2.2.2.2.2.1, ((below_of_le b5 hN0).cell hbl).trans hHeld.2.2.2.2.2.2.2.2.1, ((below_of_le b5 hN0).cell hbl).trans hHeld.2.2.2.2.2.2.2.2.2⟩
            clear hK K
            try simp only [Act.put, List.getElem_toArray, List.getElem_cons_zero, List.getElem_cons_succ, List.setIfInBounds_toArray, List.set_cons_zero, List.set_cons_succ]
            have B5 := Lib.hid (below_of_le b5 hN0)
            clear b5
            refine wpAnyH_take (i := 2) (v := ?_) rfl (by kernel_rfl) (by kernel_rfl) (by kernel_rfl) (fun _ _ _ h => h) (Or.inl ⟨by rfl, ?_⟩) (by assumption) ?_
            rotate_left
            first | (focus ((intro w hSw; (try dsimp only at hSw); go_simp); (try with_reducible rfl); done)) | fail
            try simp only [Act.put, List.getElem_toArray, List.getElem_cons_zero, List.getElem_cons_succ, List.setIfInBounds_toArray, List.set_cons_zero, List.set_cons_succ]
            refine wpAnyH_take (i := 3) (v := ?_) rfl (by kernel_rfl) (by kernel_rfl) (by kernel_rfl) (fun _ _ _ h => h) (Or.inl ⟨by rfl, ?_⟩) (by assumption) ?_
            rotate_left
            first | (focus ((intro w hSw; (try dsimp only at hSw); go_simp); (try with_reducible rfl); done)) | fail
            try simp only [Act.put, List.getElem_toArray, List.getElem_cons_zero, List.getElem_cons_succ, List.setIfInBounds_toArray, List.set_cons_zero, List.set_cons_succ]
            refine wpAnyH_take (i := 4) (v := ?_) rfl (by kernel_rfl) (by kernel_rfl) (by kernel_rfl) (fun _ _ _ h => h) (Or.inl ⟨by rfl, ?_⟩) (by assumption) ?_
            rotate_left
            first | (focus ((intro w hSw; (try dsimp only at hSw); go_simp); (try with_reducible rfl); done)) | fail
            try simp only [Act.put, List.getElem_toArray, List.getElem_cons_zero, List.getElem_cons_succ, List.setIfInBounds_toArray, List.set_cons_zero, List.set_cons_succ]
            refine wpAnyH_take (i := 5) (v := ?_) rfl (by kernel_rfl) (by kernel_rfl) (by kernel_rfl) (fun _ _ _ h => h) (Or.inl ⟨by rfl, ?_⟩) (by assumption) ?_
            rotate_left
            first | (focus ((intro w hSw; (try dsimp only at hSw); go_simp); (try with_reducible rfl); done)) | fail
            try simp only [Act.put, List.getElem_toArray, List.getElem_cons_zero, List.getElem_cons_succ, List.setIfInBounds_toArray, List.set_cons_zero, List.set_cons_succ]
            refine wpAnyH_take (i := 6) (v := ?_) rfl (by kernel_rfl) (by kernel_rfl) (by kernel_rfl) (fun _ _ _ h => h) (Or.inl ⟨by rfl, ?_⟩) (by assumption) ?_
            rotate_left
            first | (focus ((intro w hSw; (try dsimp only at hSw); go_simp); (try with_reducible rfl); done)) | fail
            try simp only [Act.put, List.getElem_toArray, List.getElem_cons_zero, List.getElem_cons_succ, List.setIfInBounds_toArray, List.set_cons_zero, List.set_cons_succ]
            refine wpAnyH_take (i := 7) (v := ?_) rfl (by kernel_rfl) (by kernel_rfl) (by kernel_rfl) (fun _ _ _ h => h) (Or.inl ⟨by rfl, ?_⟩) (by assumption) ?_
            rotate_left
            first | (focus ((intro w hSw; (try dsimp only at hSw); go_simp); (try with_reducible rfl); done)) | fail
            try simp only [Act.put, List.getElem_toArray, List.getElem_cons_zero, List.getElem_cons_succ, List.setIfInBounds_toArray, List.set_cons_zero, List.set_cons_succ]
            refine wpAnyH_take (i := 8) (v := ?_) rfl (by kernel_rfl) (by kernel_rfl) (by kernel_rfl) (fun _ _ _ h => h) (Or.inl ⟨by rfl, ?_⟩) (by assumption) ?_
            rotate_left
            first | (focus ((intro w hSw; (try dsimp only at hSw); go_simp); (try with_reducible rfl); done)) | fail
            try simp only [Act.put, List.getElem_toArray, List.getElem_cons_zero, List.getElem_cons_succ, List.setIfInBounds_toArray, List.set_cons_zero, List.set_cons_succ]
            refine wpAnyH_take (i := 9) (v := ?_) rfl (by kernel_rfl) (by kernel_rfl) (by kernel_rfl) (fun _ _ _ h => h) (Or.inl ⟨by rfl, ?_⟩) (by assumption) ?_
            rotate_left
            first | (focus ((intro w hSw; (try dsimp only at hSw); go_simp); (try with_reducible rfl); done)) | fail
            try simp only [Act.put, List.getElem_toArray, List.getElem_cons_zero, List.getElem_cons_succ, List.setIfInBounds_toArray, List.set_cons_zero, List.set_cons_succ]
            refine wpAnyH_take (i := 10) (v := ?_) rfl (by kernel_rfl) (by kernel_rfl) (by kernel_rfl) (fun _ _ _ h => h) (Or.inl ⟨by rfl, ?_⟩) (by assumption) ?_
            rotate_left
            first | (focus ((intro w hSw; (try dsimp only at hSw); go_simp); (try with_reducible rfl); done)) | fail
            try simp only [Act.put, List.getElem_toArray, List.getElem_cons_zero, List.getElem_cons_succ, List.setIfInBounds_toArray, List.set_cons_zero, List.set_cons_succ]
            refine wpAnyH_take (i := 11) (v := ?_) rfl (by kernel_rfl) (by kernel_rfl) (by kernel_rfl) (fun _ _ _ h => h) (Or.inl ⟨by rfl, ?_⟩) (by assumption) ?_
            rotate_left
            first | (focus ((intro w hSw; (try dsimp only at hSw); go_simp); (try with_reducible rfl); done)) | fail
            try simp only [Act.put, List.getElem_toArray, List.getElem_cons_zero, List.getElem_cons_succ, List.setIfInBounds_toArray, List.set_cons_zero, List.set_cons_succ]
            refine wpAnyH_take (i := 12) (v := ?_) rfl (by kernel_rfl) (by kernel_rfl) (by kernel_rfl) (fun _ _ _ h => h) (Or.inl ⟨by rfl, ?_⟩) (by assumption) ?_
            rotate_left
            first | (focus ((intro w hSw; (try dsimp only at hSw); go_simp); (try with_reducible rfl); done)) | fail
            try simp only [Act.put, List.getElem_toArray, List.getElem_cons_zero, List.getElem_cons_succ, List.setIfInBounds_toArray, List.set_cons_zero, List.set_cons_succ]
            refine wpAnyH_take (i := 13) (v := ?_) rfl (by kernel_rfl) (by kernel_rfl) (by kernel_rfl) (fun _ _ _ h => h) (Or.inl ⟨by rfl, ?_⟩) (by assumption) ?_
            rotate_left
            first | (focus ((intro w hSw; (try dsimp only at hSw); go_simp); (try with_reducible rfl); done)) | fail
            try simp only [Act.put, List.getElem_toArray, List.getElem_cons_zero, List.getElem_cons_succ, List.setIfInBounds_toArray, List.set_cons_zero, List.set_cons_succ]
            refine wpAnyH_ready (rs := [14]) (by kernel_rfl) (by simp) ?_
            refine AllReadyH.cons rfl (fun K hK => ?_) AllReadyH.nil
            go_simp
            refine (CL.out _).mono ?_; rintro r w6 ⟨rfl, b6⟩
            go_wp2_with fail
            refine hK.out _ _ ?_ (fun hHeld => ?_)
            · (try dsimp only); exact ⟨((below_of_le b6 (Nat.le_trans hN0 B5.out.size)).cell hDl).trans hHeld.1, ((below_of_le b6 (Nat.le_trans hN0 B5.out.size)).cell hDl).trans hHeld.2.1, ((below_of_le b6 (Nat.le_trans hN0 B5.out.size)).cell hDl).trans hHeld.2.2.1, ((below_of_le b6 (Nat.le_trans hN0 B5.out.size)).cell hEl).trans hHeld.2.2.2.1, ((below_of_le b6 (Nat.le_trans hN0 B5.out.size)).cell hEl).trans hHeld.2.2.2.2.1, ((below_of_le b6 (Nat.le_trans hN0 B5.out.size)).cell hEl).trans hHeld.2.2.2.2.2.1, ((below_of_le b6 (Nat.le_trans hN0 B5.out.size)).cell hEl).trans hHeld.2.2.2.2.2.2.1, ((below_of_le b6 (Nat.le_trans hN0 B5.out.size)).cell hbl).trans hHeld.2.2.2.2.2.2.2.1, ((below_of_le b6 (Nat.le_trans hN0 B5.out.size)).cell hbl).trans hHeld.2.2.2.2.2.2.2.2.1, ((below_of_le b6 (Nat.le_trans hN0 B5.out.size)).cell hbl).trans hHeld.2.2.2.2.2.2.2.2.2⟩
            clear hK K
            try simp only [Act.put, List.getElem_toArray, List.getElem_cons_zero, List.getElem_cons_succ, List.setIfInBounds_toArray, List.set_cons_zero, List.set_cons_succ]
            have B6 := Lib.hid (B5.out.trans (below_of_le b6 (Nat.le_trans hN0 B5.out.size)))
            clear b6
            refine wpAnyH_take (i := 15) (v := ?_) rfl (by kernel_rfl) (by kernel_rfl) (by kernel_rfl) (fun _ _ _ h => h) (Or.inl ⟨by rfl, ?_⟩) (by assumption) ?_
            rotate_left
            first | (focus ((intro w hSw; (try dsimp only at hSw); go_simp); (try with_reducible rfl); done)) | fail
            try simp only [Act.put, List.getElem_toArray, List.getElem_cons_zero, List.getElem_cons_succ, List.setIfInBounds_toArray, List.set_cons_zero, List.set_cons_succ]
            refine wpAnyH_take (i := 16) (v := ?_) rfl (by kernel_rfl) (by kernel_rfl) (by kernel_rfl) (fun _ _ _ h => h) (Or.inl ⟨by rfl, ?_⟩) (by assumption) ?_
            rotate_left
            first | (focus ((intro w hSw; (try dsimp only at hSw); go_simp); (try with_reducible rfl); done)) | fail
            try simp only [Act.put, List.getElem_toArray, List.getElem_cons_zero, List.getElem_cons_succ, List.setIfInBounds_toArray, List.set_cons_zero, List.set_cons_succ]
            refine wpAnyH_take (i := 17) (v := ?_) rfl (by kernel_rfl) (by kernel_rfl) (by kernel_rfl) (fun _ _ _ h => h) (Or.inl ⟨by rfl, ?_⟩) (by assumption) ?_
            rotate_left
            first | (focus ((intro w hSw; (try dsimp only at hSw); go_simp); (try with_reducible rfl); done)) | fail
            try simp only [Act.put, List.getElem_toArray, List.getElem_cons_zero, List.getElem_cons_succ, List.setIfInBounds_toArray, List.set_cons_zero, List.set_cons_succ]
            refine wpAnyH_take (i := 18) (v := ?_) rfl (by kernel_rfl) (by kernel_rfl) (by kernel_rfl) (fun _ _ _ h => h) (Or.inl ⟨by rfl, ?_⟩) (by assumption) ?_
            rotate_left
            first | (focus ((intro w hSw; (try dsimp only at hSw); go_simp); (try with_reducible rfl); done)) | fail
            try simp only [Act.put, List.getElem_toArray, List.getElem_cons_zero, List.getElem_cons_succ, List.setIfInBounds_toArray, List.set_cons_zero, List.set_cons_succ]
            refine wpAnyH_take (i := 19) (v := undef) rfl (by kernel_rfl) (by kernel_rfl) (by kernel_rfl) (fun _ _ _ h => h) (Or.inr ⟨by rfl, rfl⟩) (by assumption) ?_
            try simp only [Act.put, List.getElem_toArray, List.getElem_cons_zero, List.getElem_cons_succ, List.setIfInBounds_toArray, List.set_cons_zero, List.set_cons_succ]
            refine wpAnyH_take (i := 20) (v := undef) rfl (by kernel_rfl) (by kernel_rfl) (by kernel_rfl) (fun _ _ _ h => h) (Or.inr ⟨by rfl, rfl⟩) (by assumption) ?_
            try simp only [Act.put, List.getElem_toArray, List.getElem_cons_zero, List.getElem_cons_succ, List.setIfInBounds_toArray, List.set_cons_zero, List.set_cons_succ]
            refine wpAnyH_take (i := 21) (v := undef) rfl (by kernel_rfl) (by kernel_rfl) (by kernel_rfl) (fun _ _ _ h => h) (Or.inr ⟨by rfl, rfl⟩) (by assumption) ?_
            try simp only [Act.put, List.getElem_toArray, List.getElem_cons_zero, List.getElem_cons_succ, List.setIfInBounds_toArray, List.set_cons_zero, List.set_cons_succ]
            refine wpAnyH_take (i := 22) (v := undef) rfl (by kernel_rfl) (by kernel_rfl) (by kernel_rfl) (fun _ _ _ h => h) (Or.inr ⟨by rfl, rfl⟩) (by assumption) ?_
            try simp only [Act.put, List.getElem_toArray, List.getElem_cons_zero, List.getElem_cons_succ, List.setIfInBounds_toArray, List.set_cons_zero, List.set_cons_succ]
            refine wpAnyH_take (i := 23) (v := undef) rfl (by kernel_rfl) (by kernel_rfl) (by kernel_rfl) (fun _ _ _ h => h) (Or.inr ⟨by rfl, rfl⟩) (by assumption) ?_
            try simp only [Act.put, List.getElem_toArray, List.getElem_cons_zero, List.getElem_cons_succ, List.setIfInBounds_toArray, List.set_cons_zero, List.set_cons_succ]
            refine wpAnyH_take (i := 24) (v := undef) rfl (by kernel_rfl) (by kernel_rfl) (by kernel_rfl) (fun _ _ _ h => h) (Or.inr ⟨by rfl, rfl⟩) (by assumption) ?_
            try simp only [Act.put, List.getElem_toArray, List.getElem_cons_zero, List.getElem_cons_succ, List.setIfInBounds_toArray, List.set_cons_zero, List.set_cons_succ]
            refine wpAnyH_take (i := 25) (v := undef) rfl (by kernel_rfl) (by kernel_rfl) (by kernel_rfl) (fun _ _ _ h => h) (Or.inr ⟨by rfl, rfl⟩) (by assumption) ?_
            try simp only [Act.put, List.getElem_toArray, List.getElem_cons_zero, List.getElem_cons_succ, List.setIfInBounds_toArray, List.set_cons_zero, List.set_cons_succ]
            refine wpAnyH_take (i := 26) (v := undef) rfl (by kernel_rfl) (by kernel_rfl) (by kernel_rfl) (fun _ _ _ h => h) (Or.inr ⟨by rfl, rfl⟩) (by assumption) ?_
            try simp only [Act.put, List.getElem_toArray, List.getElem_cons_zero, List.getElem_cons_succ, List.setIfInBounds_toArray, List.set_cons_zero, List.set_cons_succ]
            refine wpAnyH_take (i := 27) (v := undef) rfl (by kernel_rfl) (by kernel_rfl) (by kernel_rfl) (fun _ _ _ h => h) (Or.inr ⟨by rfl, rfl⟩) (by assumption) ?_
            try simp only [Act.put, List.getElem_toArray, List.getElem_cons_zero, List.getElem_cons_succ, List.setIfInBounds_toArray, List.set_cons_zero, List.set_cons_succ]
            refine wpAnyH_take (i := 28) (v := undef) rfl (by kernel_rfl) (by kernel_rfl) (by kernel_rfl) (fun _ _ _ h => h) (Or.inr ⟨by rfl, rfl⟩) (by assumption) ?_
            try simp only [Act.put, List.getElem_toArray, List.getElem_cons_zero, List.getElem_cons_succ, List.setIfInBounds_toArray, List.set_cons_zero, List.set_cons_succ]
            refine wpAnyH_take (i := 29) (v := undef) rfl (by kernel_rfl) (by kernel_rfl) (by kernel_rfl) (fun _ _ _ h => h) (Or.inr ⟨by rfl, rfl⟩) (by assumption) ?_
            try simp only [Act.put, List.getElem_toArray, List.getElem_cons_zero, List.getElem_cons_succ, List.setIfInBounds_toArray, List.set_cons_zero, List.set_cons_succ]
            refine wpAnyH_take (i := 30) (v := undef) rfl (by kernel_rfl) (by kernel_rfl) (by kernel_rfl) (fun _ _ _ h => h) (Or.inr ⟨by rfl, rfl⟩) (by assumption) ?_
            try simp only [Act.put, List.getElem_toArray, List.getElem_cons_zero, List.getElem_cons_succ, List.setIfInBounds_toArray, List.set_cons_zero, List.set_cons_succ]
            refine wpAnyH_take (i := 31) (v := undef) rfl (by kernel_rfl) (by kernel_rfl) (by kernel_rfl) (fun _ _ _ h => h) (Or.inr ⟨by rfl, rfl⟩) (by assumption) ?_
            try simp only [Act.put, List.getElem_toArray, List.getElem_cons_zero, List.getElem_cons_succ, List.setIfInBounds_toArray, List.set_cons_zero, List.set_cons_succ]
            refine wpAnyH_take (i := 32) (v := undef) rfl (by kernel_rfl) (by kernel_rfl) (by kernel_rfl) (fun _ _ _ h => h) (Or.inr ⟨by rfl, rfl⟩) (by assumption) ?_
            try simp only [Act.put, List.getElem_toArray, List.getElem_cons_zero, List.getElem_cons_succ, List.setIfInBounds_toArray, List.set_cons_zero, List.set_cons_succ]
            refine wpAnyH_take (i := 33) (v := ?_) rfl (by kernel_rfl) (by kernel_rfl) (by kernel_rfl) (fun _ _ _ h => h) (Or.inl ⟨by rfl, ?_⟩) (by assumption) ?_
            rotate_left
            first | (focus ((intro w hSw; (try dsimp only at hSw); go_simp); (try with_reducible rfl); done)) | fail
            try simp only [Act.put, List.getElem_toArray, List.getElem_cons_zero, List.getElem_cons_succ, List.setIfInBounds_toArray, List.set_cons_zero, List.set_cons_succ]
            refine wpAnyH_done (by kernel_rfl) ?_ _
            go_wp2
            go_ret
            exact ⟨by rw [HV.out, ovG_no HXj.out HX.out]; rfl, HEV1.out.2.2.1.drew.trans (below_of_le B6.out HEV1.out.2.2.2)⟩
          | true =>
            rw [hl] at CL
            have hl0 : dLt ((p1, p2), p3) ((x1, x2), x3) = true := hl
            clear hl
            by_cases hq : x1 = o1 ∧ x2 = o2
            · have hEq : ∀ w : World, (binOp .eql 48 (.agg #[.int .i64 x1, .int .i64 x2]) (.agg #[.int .i64 o1, .int .i64 o2])).run Tryz.prog w = .ok (.bool true) w := fun w => by have h := eql_act x1 x2 o1 o2 w; unfold actV at h; rw [decide_eq_true hq] at h; exact h
              have hq1 : decide (((x1, x2) : Ac) = (o1, o2)) = true := decide_eq_true (Prod.ext hq.1 hq.2)
              clear hq
              by_cases hs : o3 ≤ x3
              · have hs1 : decide (o3 ≤ x3) = true := decide_eq_true hs
                have HX := Lib.hid (show okP ((o1, o2), o3) (prevAt none L (k + 1)) ((x1, x2), x3) = false from by rw [HPV.out]; unfold okP; simp only; rw [hr', hq1, hl0, hs1]; rfl)
                clear hq1 hr' hl0
                refine wp_region_held_drew (S := (fun W => W.cell? ⟨D, 0, none⟩ = some (.int .i64 x1) ∧ W.cell? ⟨D, 1, none⟩ = some (.int .i64 x2) ∧ W.cell? ⟨D, 2, none⟩ = some (.int .i64 x3) ∧ W.cell? ⟨w.heap.size, 0, none⟩ = some (.int .i64 o1) ∧ W.cell? ⟨w.heap.size, 1, none⟩ = some (.int .i64 o2) ∧ W.cell? ⟨w.heap.size, 2, none⟩ = some (.int .i64 o3) ∧ W.cell? ⟨w.heap.size, 18, none⟩ = some (.slice (some ⟨b0, o0, none⟩) n c) ∧ W.cell? ⟨b0, o0 + k * 3, none⟩ = some (.int .i64 p1) ∧ W.cell? ⟨b0, o0 + k * 3 + 1, none⟩ = some (.int .i64 p2) ∧ W.cell? ⟨b0, o0 + k * 3 + 2, none⟩ = some (.int .i64 p3))) (by kernel_rfl) ?_ (fun hHeld => ?_)
                · (try dsimp only); exact HS.out
                refine wpAnyH_take (i := 0) (v := ?_) rfl (by kernel_rfl) (by kernel_rfl) (by kernel_rfl) (fun _ _ _ h => h) (Or.inl ⟨by rfl, ?_⟩) (by assumption) ?_
                rotate_left
                first | (focus ((intro w hSw; (try dsimp only at hSw); go_simp); (try with_reducible rfl); done)) | fail
                try simp only [Act.put, List.getElem_toArray, List.getElem_cons_zero, List.setIfInBounds_toArray, List.set_cons_zero, List.set_cons_succ]
                refine wpAnyH_ready (rs := [1]) (by kernel_rfl) (by simp) ?_
                refine AllReadyH.cons rfl (fun K hK => ?_) AllReadyH.nil
                go_simp
                refine (CR.out _).mono ?_; rintro r w5 ⟨rfl, b5⟩
                go_wp2_with fail
                refine hK.out _ _ ?_ (fun hHeld => ?_)
                · (try dsimp only); exact ⟨((below_of_le b5 hN0).cell hDl).trans hHeld.1, ((below_of_le b5 hN0).cell hDl).trans hHeld.2.1, ((below_of_le b5 hN0).cell hDl).trans hHeld.2.2.1, ((below_of_le b5 hN0).cell hEl).trans hHeld.2.2.2.1, ((below_of_le b5 hN0).cell hEl).trans hHeld.2.2.2.2.1, ((below_of_le b5 hN0).cell hEl).trans hHeld.2.2.2.2.2.1, ((below_of_le b5 hN0).cell hEl).trans hHeld.2.2.2.2.2.2.1, ((below_of_le b5 hN0).cell hbl).trans hHeld.2.2.2.2.2.2.2.1, ((below_of_le b5 hN0).cell hbl).trans hHeld.2.2.2.2.2.2.2.2.1, ((below_of_le b5 hN0).cell hbl).trans hHeld.2.2.2.2.2.2.2.2.2⟩
                clear hK K
                try simp only [Act.put, List.getElem_toArray, List.getElem_cons_zero, List.getElem_cons_succ, List.setIfInBounds_toArray, List.set_cons_zero, List.set_cons_succ]
                have B5 := Lib.hid (below_of_le b5 hN0)
                clear b5
                refine wpAnyH_take (i := 2) (v := ?_) rfl (by kernel_rfl) (by kernel_rfl) (by kernel_rfl) (fun _ _ _ h => h) (Or.inl ⟨by rfl, ?_⟩) (by assumption) ?_
                rotate_left
                first | (focus ((intro w hSw; (try dsimp only at hSw); go_simp); (try with_reducible rfl); done)) | fail
                try simp only [Act.put, List.getElem_toArray, List.getElem_cons_zero, List.getElem_cons_succ, List.setIfInBounds_toArray, List.set_cons_zero, List.set_cons_succ]
                refine wpAnyH_take (i := 3) (v := ?_) rfl (by kernel_rfl) (by kernel_rfl) (by kernel_rfl) (fun _ _ _ h => h) (Or.inl ⟨by rfl, ?_⟩) (by assumption) ?_
                rotate_left
                first | (focus ((intro w hSw; (try dsimp only at hSw); go_simp); (try with_reducible rfl); done)) | fail
                try simp only [Act.put, List.getElem_toArray, List.getElem_cons_zero, List.getElem_cons_succ, List.setIfInBounds_toArray, List.set_cons_zero, List.set_cons_succ]
                refine wpAnyH_take (i := 4) (v := ?_) rfl (by kernel_rfl) (by kernel_rfl) (by kernel_rfl) (fun _ _ _ h => h) (Or.inl ⟨by rfl, ?_⟩) (by assumption) ?_
                rotate_left
                first | (focus ((intro w hSw; (try dsimp only at hSw); go_simp); (try with_reducible rfl); done)) | fail
                try simp only [Act.put, List.getElem_toArray, List.getElem_cons_zero, List.getElem_cons_succ, List.setIfInBounds_toArray, List.set_cons_zero, List.set_cons_succ]
                refine wpAnyH_take (i := 5) (v := ?_) rfl (by kernel_rfl) (by kernel_rfl) (by kernel_rfl) (fun _ _ _ h => h) (Or.inl ⟨by rfl, ?_⟩) (by assumption) ?_
                rotate_left
                first | (focus ((intro w hSw; (try dsimp only at hSw); go_simp); (try with_reducible rfl); done)) | fail
                try simp only [Act.put, List.getElem_toArray, List.getElem_cons_zero, List.getElem_cons_succ, List.setIfInBounds_toArray, List.set_cons_zero, List.set_cons_succ]
                refine wpAnyH_take (i := 6) (v := ?_) rfl (by kernel_rfl) (by kernel_rfl) (by kernel_rfl) (fun _ _ _ h => h) (Or.inl ⟨by rfl, ?_⟩) (by assumption) ?_
                rotate_left
                first | (focus ((intro w hSw; (try dsimp only at hSw); go_simp); (try with_reducible rfl); done)) | fail
                try simp only [Act.put, List.getElem_toArray, List.getElem_cons_zero, List.getElem_cons_succ, List.setIfInBounds_toArray, List.set_cons_zero, List.set_cons_succ]
                refine wpAnyH_take (i := 7) (v := ?_) rfl (by kernel_rfl) (by kernel_rfl) (by kernel_rfl) (fun _ _ _ h => h) (Or.inl ⟨by rfl, ?_⟩) (by assumption) ?_
                rotate_left
                first | (focus ((intro w hSw; (try dsimp only at hSw); go_simp); (try with_reducible rfl); done)) | fail
                try simp only [Act.put, List.getElem_toArray, List.getElem_cons_zero, List.getElem_cons_succ, List.setIfInBounds_toArray, List.set_cons_zero, List.set_cons_succ]
                refine wpAnyH_take (i := 8) (v := ?_) rfl (by kernel_rfl) (by kernel_rfl) (by kernel_rfl) (fun _ _ _ h => h) (Or.inl ⟨by rfl, ?_⟩) (by assumption) ?_
                rotate_left
                first | (focus ((intro w hSw; (try dsimp only at hSw); go_simp); (try with_reducible rfl); done)) | fail
                try simp only [Act.put, List.getElem_toArray, List.getElem_cons_zero, List.getElem_cons_succ, List.setIfInBounds_toArray, List.set_cons_zero, List.set_cons_succ]
                refine wpAnyH_take (i := 9) (v := ?_) rfl (by kernel_rfl) (by kernel_rfl) (by kernel_rfl) (fun _ _ _ h => h) (Or.inl ⟨by rfl, ?_⟩) (by assumption) ?_
                rotate_left
                first | (focus ((intro w hSw; (try dsimp only at hSw); go_simp); (try with_reducible rfl); done)) | fail
                try simp only [Act.put, List.getElem_toArray, List.getElem_cons_zero, List.getElem_cons_succ, List.setIfInBounds_toArray, List.set_cons_zero, List.set_cons_succ]
                refine wpAnyH_take (i := 10) (v := ?_) rfl (by kernel_rfl) (by kernel_rfl) (by kernel_rfl) (fun _ _ _ h => h) (Or.inl ⟨by rfl, ?_⟩) (by assumption) ?_
                rotate_left
                first | (focus ((intro w hSw; (try dsimp only at hSw); go_simp); (try with_reducible rfl); done)) | fail
                try simp only [Act.put, List.getElem_toArray, List.getElem_cons_zero, List.getElem_cons_succ, List.setIfInBounds_toArray, List.set_cons_zero, List.set_cons_succ]
                refine wpAnyH_take (i := 11) (v := ?_) rfl (by kernel_rfl) (by kernel_rfl) (by kernel_rfl) (fun _ _ _ h => h) (Or.inl ⟨by rfl, ?_⟩) (by assumption) ?_
                rotate_left
                first | (focus ((intro w hSw; (try dsimp only at hSw); go_simp); (try with_reducible rfl); done)) | fail
                try simp only [Act.put, List.getElem_toArray, List.getElem_cons_zero, List.getElem_cons_succ, List.setIfInBounds_toArray, List.set_cons_zero, List.set_cons_succ]
                refine wpAnyH_take (i := 12) (v := ?_) rfl (by kernel_rfl) (by kernel_rfl) (by kernel_rfl) (fun _ _ _ h => h) (Or.inl ⟨by rfl, ?_⟩) (by assumption) ?_
                rotate_left
                first | (focus ((intro w hSw; (try dsimp only at hSw); go_simp); (try with_reducible rfl); done)) | fail
                try simp only [Act.put, List.getElem_toArray, List.getElem_cons_zero, List.getElem_cons_succ, List.setIfInBounds_toArray, List.set_cons_zero, List.set_cons_succ]
                refine wpAnyH_take (i := 13) (v := ?_) rfl (by kernel_rfl) (by kernel_rfl) (by kernel_rfl) (fun _ _ _ h => h) (Or.inl ⟨by rfl, ?_⟩) (by assumption) ?_
                rotate_left
                first | (focus ((intro w hSw; (try dsimp only at hSw); go_simp); (try with_reducible rfl); done)) | fail
                try simp only [Act.put, List.getElem_toArray, List.getElem_cons_zero, List.getElem_cons_succ, List.setIfInBounds_toArray, List.set_cons_zero, List.set_cons_succ]
                refine wpAnyH_ready (rs := [14]) (by kernel_rfl) (by simp) ?_
                refine AllReadyH.cons rfl (fun K hK => ?_) AllReadyH.nil
                go_simp
                refine (CL.out _).mono ?_; rintro r w6 ⟨rfl, b6⟩
                go_wp2_with fail
                refine hK.out _ _ ?_ (fun hHeld => ?_)
                · (try dsimp only); exact ⟨((below_of_le b6 (Nat.le_trans hN0 B5.out.size)).cell hDl).trans hHeld.1, ((below_of_le b6 (Nat.le_trans hN0 B5.out.size)).cell hDl).trans hHeld.2.1, ((below_of_le b6 (Nat.le_trans hN0 B5.out.size)).cell hDl).trans hHeld.2.2.1, ((below_of_le b6 (Nat.le_trans hN0 B5.out.size)).cell hEl).trans hHeld.2.2.2.1, ((below_of_le b6 (Nat.le_trans hN0 B5.out.size)).cell hEl).trans hHeld.2.2.2.2.1, ((below_of_le b6 (Nat.le_trans hN0 B5.out.size)).cell hEl).trans hHeld.2.2.2.2.2.1, ((below_of_le b6 (Nat.le_trans hN0 B5.out.size)).cell hEl).trans hHeld.2.2.2.2.2.2.1, ((below_of_le b6 (Nat.le_trans hN0 B5.out.size)).cell hbl).trans hHeld.2.2.2.2.2.2.2.1, ((below_of_le b6 (Nat.le_trans hN0 B5.out.size)).cell hbl).trans hHeld.2.2.2.2.2.2.2.2.1, ((below_of_le b6 (Nat.le_trans hN0 B5.out.size)).cell hbl).trans hHeld.2.2.2.2.2.2.2.2.2⟩
                clear hK K
                try simp only [Act.put, List.getElem_toArray, List.getElem_cons_zero, List.getElem_cons_succ, List.setIfInBounds_toArray, List.set_cons_zero, List.set_cons_succ]
                have B6 := Lib.hid (B5.out.trans (below_of_le b6 (Nat.le_trans hN0 B5.out.size)))
                clear b6
                refine wpAnyH_take (i := 15) (v := ?_) rfl (by kernel_rfl) (by kernel_rfl) (by kernel_rfl) (fun _ _ _ h => h) (Or.inl ⟨by rfl, ?_⟩) (by assumption) ?_
                rotate_left
                first | (focus ((intro w hSw; (try dsimp only at hSw); go_simp); (try with_reducible rfl); done)) | fail
                try simp only [Act.put, List.getElem_toArray, List.getElem_cons_zero, List.getElem_cons_succ, List.setIfInBounds_toArray, List.set_cons_zero, List.set_cons_succ]
                refine wpAnyH_take (i := 16) (v := ?_) rfl (by kernel_rfl) (by kernel_rfl) (by kernel_rfl) (fun _ _ _ h => h) (Or.inl ⟨by rfl, ?_⟩) (by assumption) ?_
                rotate_left
                first | (focus ((intro w hSw; (try dsimp only at hSw); go_simp); (try with_reducible rfl); done)) | fail
                try simp only [Act.put, List.getElem_toArray, List.getElem_cons_zero, List.getElem_cons_succ, List.setIfInBounds_toArray, List.set_cons_zero, List.set_cons_succ]
                refine wpAnyH_take (i := 17) (v := ?_) rfl (by kernel_rfl) (by kernel_rfl) (by kernel_rfl) (fun _ _ _ h => h) (Or.inl ⟨by rfl, ?_⟩) (by assumption) ?_
                rotate_left
                first | (focus ((intro w hSw; (try dsimp only at hSw); go_simp); (try with_reducible rfl); done)) | fail
                try simp only [Act.put, List.getElem_toArray, List.getElem_cons_zero, List.getElem_cons_succ, List.setIfInBounds_toArray, List.set_cons_zero, List.set_cons_succ]
                refine wpAnyH_take (i := 18) (v := ?_) rfl (by kernel_rfl) (by kernel_rfl) (by kernel_rfl) (fun _ _ _ h => h) (Or.inl ⟨by rfl, ?_⟩) (by assumption) ?_
                rotate_left
                first | (focus ((intro w hSw; (try dsimp only at hSw); go_simp); (try with_reducible rfl); done)) | fail
                try simp only [Act.put, List.getElem_toArray, List.getElem_cons_zero, List.getElem_cons_succ, List.setIfInBounds_toArray, List.set_cons_zero, List.set_cons_succ]
                refine wpAnyH_take (i := 19) (v := ?_) rfl (by kernel_rfl) (by kernel_rfl) (by kernel_rfl) (fun _ _ _ h => h) (Or.inl ⟨by rfl, ?_⟩) (by assumption) ?_
                rotate_left
                first | (focus ((intro w hSw; (try dsimp only at hSw); go_simp); (try with_reducible rfl); done)) | fail
                try simp only [Act.put, List.getElem_toArray, List.getElem_cons_zero, List.getElem_cons_succ, List.setIfInBounds_toArray, List.set_cons_zero, List.set_cons_succ]
                refine wpAnyH_take (i := 20) (v := ?_) rfl (by kernel_rfl) (by kernel_rfl) (by kernel_rfl) (fun _ _ _ h => h) (Or.inl ⟨by rfl, ?_⟩) (by assumption) ?_
                rotate_left
                first | (focus ((intro w hSw; (try dsimp only at hSw); go_simp); (try with_reducible rfl); done)) | fail
                try simp only [Act.put, List.getElem_toArray, List.getElem_cons_zero, List.getElem_cons_succ, List.setIfInBounds_toArray, List.set_cons_zero, List.set_cons_succ]
                refine wpAnyH_take (i := 21) (v := ?_) rfl (by kernel_rfl) (by kernel_rfl) (by kernel_rfl) (fun _ _ _ h => h) (Or.inl ⟨by rfl, ?_⟩) (by assumption) ?_
                rotate_left
                first | (focus ((intro w hSw; (try dsimp only at hSw); go_simp); (try with_reducible rfl); done)) | fail
                try simp only [Act.put, List.getElem_toArray, List.getElem_cons_zero, List.getElem_cons_succ, List.setIfInBounds_toArray, List.set_cons_zero, List.set_cons_succ]
                refine wpAnyH_take (i := 22) (v := ?_) rfl (by kernel_rfl) (by kernel_rfl) (by kernel_rfl) (fun _ _ _ h => h) (Or.inl ⟨by rfl, ?_⟩) (by assumption) ?_
                rotate_left
                first | (focus ((intro w hSw; (try dsimp only at hSw); go_simp); (try with_reducible rfl); done)) | fail
                try simp only [Act.put, List.getElem_toArray, List.getElem_cons_zero, List.getElem_cons_succ, List.setIfInBounds_toArray, List.set_cons_zero, List.set_cons_succ]
                refine wpAnyH_take (i := 23) (v := ?_) rfl (by kernel_rfl) (by kernel_rfl) (by kernel_rfl) (fun _ _ _ h => h) (Or.inl ⟨by rfl, ?_⟩) (by assumption) ?_
                rotate_left
                first | (focus ((intro w hSw; (try dsimp only at hSw); go_simp); (try with_reducible rfl); done)) | fail
                try simp only [Act.put, List.getElem_toArray, List.getElem_cons_zero, List.getElem_cons_succ, List.setIfInBounds_toArray, List.set_cons_zero, List.set_cons_succ]
                refine wpAnyH_take (i := 24) (v := ?_) rfl (by kernel_rfl) (by kernel_rfl) (by kernel_rfl) (fun _ _ _ h => h) (Or.inl ⟨by rfl, ?_⟩) (by assumption) ?_
                rotate_left
                first | (focus ((intro w hSw; (try dsimp only at hSw); go_simp); (try with_reducible rfl); done)) | fail
                try simp only [Act.put, List.getElem_toArray, List.getElem_cons_zero, List.getElem_cons_succ, List.setIfInBounds_toArray, List.set_cons_zero, List.set_cons_succ]
                refine wpAnyH_take (i := 25) (v := ?_) rfl (by kernel_rfl) (by kernel_rfl) (by kernel_rfl) (fun _ _ _ h => h) (Or.inl ⟨by rfl, ?_⟩) (by assumption) ?_
                rotate_left
                first | (focus ((intro w hSw; (try dsimp only at hSw); go_simp); (try with_reducible rfl); done)) | fail
                try simp only [Act.put, List.getElem_toArray, List.getElem_cons_zero, List.getElem_cons_succ, List.setIfInBounds_toArray, List.set_cons_zero, List.set_cons_succ]
                refine wpAnyH_take (i := 26) (v := ?_) rfl (by kernel_rfl) (by kernel_rfl) (by kernel_rfl) (fun _ _ _ h => h) (Or.inl ⟨by rfl, ?_⟩) (by assumption) ?_
                rotate_left
                first | (focus ((intro w hSw; (try dsimp only at hSw); go_simp); (try with_reducible rfl); done)) | fail
                try simp only [Act.put, List.getElem_toArray, List.getElem_cons_zero, List.getElem_cons_succ, List.setIfInBounds_toArray, List.set_cons_zero, List.set_cons_succ]
                refine wpAnyH_take (i := 27) (v := ?_) rfl (by kernel_rfl) (by kernel_rfl) (by kernel_rfl) (fun _ _ _ h => h) (Or.inl ⟨by rfl, ?_⟩) (by assumption) ?_
                rotate_left
                first | (focus ((intro w hSw; (try dsimp only at hSw); go_simp); (try with_reducible rfl); done)) | fail
                try simp only [Act.put, List.getElem_toArray, List.getElem_cons_zero, List.getElem_cons_succ, List.setIfInBounds_toArray, List.set_cons_zero, List.set_cons_succ]
                refine wpAnyH_take (i := 28) (v := ?_) rfl (by kernel_rfl) (by kernel_rfl) (by kernel_rfl) (fun _ _ _ h => h) (Or.inl ⟨by rfl, ?_⟩) (by assumption) ?_
                rotate_left
                first | (focus ((intro w hSw; (try dsimp only at hSw); go_simp); (try with_reducible rfl); done)) | fail
                try simp only [Act.put, List.getElem_toArray, List.getElem_cons_zero, List.getElem_cons_succ, List.setIfInBounds_toArray, List.set_cons_zero, List.set_cons_succ]
                refine wpAnyH_take (i := 29) (v := ?_) rfl (by kernel_rfl) (by kernel_rfl) (by kernel_rfl) (fun _ _ _ h => h) (Or.inl ⟨by rfl, ?_⟩) (by assumption) ?_
                rotate_left
                first | (focus ((intro w hSw; (try dsimp only at hSw); go_simp); (try with_reducible rfl); done)) | fail
                try simp only [Act.put, List.getElem_toArray, List.getElem_cons_zero, List.getElem_cons_succ, List.setIfInBounds_toArray, List.set_cons_zero, List.set_cons_succ]
                refine wpAnyH_take (i := 30) (v := ?_) rfl (by kernel_rfl) (by kernel_rfl) (by kernel_rfl) (fun _ _ _ h => h) (Or.inl ⟨by rfl, ?_⟩) (by assumption) ?_
                rotate_left
                first | (focus ((intro w hSw; (try dsimp only at hSw); go_simp); (try with_reducible rfl); done)) | fail
                try simp only [Act.put, List.getElem_toArray, List.getElem_cons_zero, List.getElem_cons_succ, List.setIfInBounds_toArray, List.set_cons_zero, List.set_cons_succ]
                refine wpAnyH_take (i := 31) (v := ?_) rfl (by kernel_rfl) (by kernel_rfl) (by kernel_rfl) (fun _ _ _ h => h) (Or.inl ⟨by rfl, ?_⟩) (by assumption) ?_
                rotate_left
                first | (focus ((intro w hSw; (try dsimp only at hSw); go_simp); (try with_reducible rfl); done)) | fail
                try simp only [Act.put, List.getElem_toArray, List.getElem_cons_zero, List.getElem_cons_succ, List.setIfInBounds_toArray, List.set_cons_zero, List.set_cons_succ]
                refine wpAnyH_take (i := 32) (v := ?_) rfl (by kernel_rfl) (by kernel_rfl) (by kernel_rfl) (fun _ _ _ h => h) (Or.inl ⟨by rfl, ?_⟩) (by assumption) ?_
                rotate_left
                first | (focus ((intro w hSw; (try dsimp only at hSw); go_simp); (try with_reducible rfl); done)) | fail
                try simp only [Act.put, List.getElem_toArray, List.getElem_cons_zero, List.getElem_cons_succ, List.setIfInBounds_toArray, List.set_cons_zero, List.set_cons_succ]
                refine wpAnyH_take (i := 33) (v := ?_) rfl (by kernel_rfl) (by kernel_rfl) (by kernel_rfl) (fun _ _ _ h => h) (Or.inl ⟨by rfl, ?_⟩) (by assumption) ?_
                rotate_left
                first | (focus ((intro w hSw; (try dsimp only at hSw); go_simp); (try with_reducible rfl); done)) | fail
                try simp only [Act.put, List.getElem_toArray, List.getElem_cons_zero, List.getElem_cons_succ, List.setIfInBounds_toArray, List.set_cons_zero, List.set_cons_succ]
                refine wpAnyH_done (by kernel_rfl) ?_ _
                go_wp2
                go_ret
                exact ⟨by rw [HV.out, ovG_no HXj.out HX.out]; rfl, HEV1.out.2.2.1.drew.trans (below_of_le B6.out HEV1.out.2.2.2)⟩
              · have hs1 : decide (o3 ≤ x3) = false := decide_eq_false hs
                have HX := Lib.hid (show okP ((o1, o2), o3) (prevAt none L (k + 1)) ((x1, x2), x3) = true from by rw [HPV.out]; unfold okP; simp only; rw [hr', hq1, hl0, hs1]; rfl)
                clear hq1 hr' hl0
                refine wp_region_held_drew (S := (fun W => W.cell? ⟨D, 0, none⟩ = some (.int .i64 x1) ∧ W.cell? ⟨D, 1, none⟩ = some (.int .i64 x2) ∧ W.cell? ⟨D, 2, none⟩ = some (.int .i64 x3) ∧ W.cell? ⟨w.heap.size, 0, none⟩ = some (.int .i64 o1) ∧ W.cell? ⟨w.heap.size, 1, none⟩ = some (.int .i64 o2) ∧ W.cell? ⟨w.heap.size, 2, none⟩ = some (.int .i64 o3) ∧ W.cell? ⟨w.heap.size, 18, none⟩ = some (.slice (some ⟨b0, o0, none⟩) n c) ∧ W.cell? ⟨b0, o0 + k * 3, none⟩ = some (.int .i64 p1) ∧ W.cell? ⟨b0, o0 + k * 3 + 1, none⟩ = some (.int .i64 p2) ∧ W.cell? ⟨b0, o0 + k * 3 + 2, none⟩ = some (.int .i64 p3))) (by kernel_rfl) ?_ (fun hHeld => ?_)
                · (try dsimp only); exact HS.out
                refine wpAnyH_take (i := 0) (v := ?_) rfl (by kernel_rfl) (by kernel_rfl) (by kernel_rfl) (fun _ _ _ h => h) (Or.inl ⟨by rfl, ?_⟩) (by assumption) ?_
                rotate_left
                first | (focus ((intro w hSw; (try dsimp only at hSw); go_simp); (try with_reducible rfl); done)) | fail
                try simp only [Act.put, List.getElem_toArray, List.getElem_cons_zero, List.setIfInBounds_toArray, List.set_cons_zero, List.set_cons_succ]
                refine wpAnyH_ready (rs := [1]) (by kernel_rfl) (by simp) ?_
                refine AllReadyH.cons rfl (fun K hK => ?_) AllReadyH.nil
                go_simp
                refine (CR.out _).mono ?_; rintro r w5 ⟨rfl, b5⟩
                go_wp2_with fail
                refine hK.out _ _ ?_ (fun hHeld => ?_)
                · (try dsimp only); exact ⟨((below_of_le b5 hN0).cell hDl).trans hHeld.1, ((below_of_le b5 hN0).cell hDl).trans hHeld.2.1, ((below_of_le b5 hN0).cell hDl).trans hHeld.2.2.1, ((below_of_le b5 hN0).cell hEl).trans hHeld.2.2.2.1, ((below_of_le b5 hN0).cell hEl).trans hHeld.2.2.2.2.1, ((below_of_le b5 hN0).cell hEl).trans hHeld.2.2.2.2.2.1, ((below_of_le b5 hN0).cell hEl).trans hHeld.2.2.2.2.2.2.1, ((below_of_le b5 hN0).cell hbl).trans hHeld.2.2.2.2.2.2.2.1, ((below_of_le b5 hN0).cell hbl).trans hHeld.2.2.2.2.2.2.2.2.1, ((below_of_le b5 hN0).cell hbl).trans hHeld.2.2.2.2.2.2.2.2.2⟩
                clear hK K
                try simp only [Act.put, List.getElem_toArray, List.getElem_cons_zero, List.getElem_cons_succ, List.setIfInBounds_toArray, List.set_cons_zero, List.set_cons_succ]
                have B5 := Lib.hid (below_of_le b5 hN0)
                clear b5
                refine wpAnyH_take (i := 2) (v := ?_) rfl (by kernel_rfl) (by kernel_rfl) (by kernel_rfl) (fun _ _ _ h => h) (Or.inl ⟨by rfl, ?_⟩) (by assumption) ?_
                rotate_left
                first | (focus ((intro w hSw; (try dsimp only at hSw); go_simp); (try with_reducible rfl); done)) | fail
                try simp only [Act.put, List.getElem_toArray, List.getElem_cons_zero, List.getElem_cons_succ, List.setIfInBounds_toArray, List.set_cons_zero, List.set_cons_succ]
                refine wpAnyH_take (i := 3) (v := ?_) rfl (by kernel_rfl) (by kernel_rfl) (by kernel_rfl) (fun _ _ _ h => h) (Or.inl ⟨by rfl, ?_⟩) (by assumption) ?_
                rotate_left
                first | (focus ((intro w hSw; (try dsimp only at hSw); go_simp); (try with_reducible rfl); done)) | fail
                try simp only [Act.put, List.getElem_toArray, List.getElem_cons_zero, List.getElem_cons_succ, List.setIfInBounds_toArray, List.set_cons_zero, List.set_cons_succ]
                refine wpAnyH_take (i := 4) (v := ?_) rfl (by kernel_rfl) (by kernel_rfl) (by kernel_rfl) (fun _ _ _ h => h) (Or.inl ⟨by rfl, ?_⟩) (by assumption) ?_
                rotate_left
                first | (focus ((intro w hSw; (try dsimp only at hSw); go_simp); (try with_reducible rfl); done)) | fail
                try simp only [Act.put, List.getElem_toArray, List.getElem_cons_zero, List.getElem_cons_succ, List.setIfInBounds_toArray, List.set_cons_zero, List.set_cons_succ]
                refine wpAnyH_take (i := 5) (v := ?_) rfl (by kernel_rfl) (by kernel_rfl) (by kernel_rfl) (fun _ _ _ h => h) (Or.inl ⟨by rfl, ?_⟩) (by assumption) ?_
                rotate_left
                first | (focus ((intro w hSw; (try dsimp only at hSw); go_simp); (try with_reducible rfl); done)) | fail
                try simp only [Act.put, List.getElem_toArray, List.getElem_cons_zero, List.getElem_cons_succ, List.setIfInBounds_toArray, List.set_cons_zero, List.set_cons_succ]
                refine wpAnyH_take (i := 6) (v := ?_) rfl (by kernel_rfl) (by kernel_rfl) (by kernel_rfl) (fun _ _ _ h => h) (Or.inl ⟨by rfl, ?_⟩) (by assumption) ?_
                rotate_left
                first | (focus ((intro w hSw; (try dsimp only at hSw); go_simp); (try with_reducible rfl); done)) | fail
                try simp only [Act.put, List.getElem_toArray, List.getElem_cons_zero, List.getElem_cons_succ, List.setIfInBounds_toArray, List.set_cons_zero, List.set_cons_succ]
                refine wpAnyH_take (i := 7) (v := ?_) rfl (by kernel_rfl) (by kernel_rfl) (by kernel_rfl) (fun _ _ _ h => h) (Or.inl ⟨by rfl, ?_⟩) (by assumption) ?_
                rotate_left
                first | (focus ((intro w hSw; (try dsimp only at hSw); go_simp); (try with_reducible rfl); done)) | fail
                try simp only [Act.put, List.getElem_toArray, List.getElem_cons_zero, List.getElem_cons_succ, List.setIfInBounds_toArray, List.set_cons_zero, List.set_cons_succ]
                refine wpAnyH_take (i := 8) (v := ?_) rfl (by kernel_rfl) (by kernel_rfl) (by kernel_rfl) (fun _ _ _ h => h) (Or.inl ⟨by rfl, ?_⟩) (by assumption) ?_
                rotate_left
                first | (focus ((intro w hSw; (try dsimp only at hSw); go_simp); (try with_reducible rfl); done)) | fail
                try simp only [Act.put, List.getElem_toArray, List.getElem_cons_zero, List.getElem_cons_succ, List.setIfInBounds_toArray, List.set_cons_zero, List.set_cons_succ]
                refine wpAnyH_take (i := 9) (v := ?_) rfl (by kernel_rfl) (by kernel_rfl) (by kernel_rfl) (fun _ _ _ h => h) (Or.inl ⟨by rfl, ?_⟩) (by assumption) ?_
                rotate_left
                first | (focus ((intro w hSw; (try dsimp only at hSw); go_simp); (try with_reducible rfl); done)) | fail
                try simp only [Act.put, List.getElem_toArray, List.getElem_cons_zero, List.getElem_cons_succ, List.setIfInBounds_toArray, List.set_cons_zero, List.set_cons_succ]
                refine wpAnyH_take (i := 10) (v := ?_) rfl (by kernel_rfl) (by kernel_rfl) (by kernel_rfl) (fun _ _ _ h => h) (Or.inl ⟨by rfl, ?_⟩) (by assumption) ?_
                rotate_left
                first | (focus ((intro w hSw; (try dsimp only at hSw); go_simp); (try with_reducible rfl); done)) | fail
                try simp only [Act.put, List.getElem_toArray, List.getElem_cons_zero, List.getElem_cons_succ, List.setIfInBounds_toArray, List.set_cons_zero, List.set_cons_succ]
                refine wpAnyH_take (i := 11) (v := ?_) rfl (by kernel_rfl) (by kernel_rfl) (by kernel_rfl) (fun _ _ _ h => h) (Or.inl ⟨by rfl, ?_⟩) (by assumption) ?_
                rotate_left
                first | (focus ((intro w hSw; (try dsimp only at hSw); go_simp); (try with_reducible rfl); done)) | fail
                try simp only [Act.put, List.getElem_toArray, List.getElem_cons_zero, List.getElem_cons_succ, List.setIfInBounds_toArray, List.set_cons_zero, List.set_cons_succ]
                refine wpAnyH_take (i := 12) (v := ?_) rfl (by kernel_rfl) (by kernel_rfl) (by kernel_rfl) (fun _ _ _ h => h) (Or.inl ⟨by rfl, ?_⟩) (by assumption) ?_
                rotate_left
                first | (focus ((intro w hSw; (try dsimp only at hSw); go_simp); (try with_reducible rfl); done)) | fail
                try simp only [Act.put, List.getElem_toArray, List.getElem_cons_zero, List.getElem_cons_succ, List.setIfInBounds_toArray, List.set_cons_zero, List.set_cons_succ]
                refine wpAnyH_take (i := 13) (v := ?_) rfl (by kernel_rfl) (by kernel_rfl) (by kernel_rfl) (fun _ _ _ h => h) (Or.inl ⟨by rfl, ?_⟩) (by assumption) ?_
                rotate_left
                first | (focus ((intro w hSw; (try dsimp only at hSw); go_simp); (try with_reducible rfl); done)) | fail
                try simp only [Act.put, List.getElem_toArray, List.getElem_cons_zero, List.getElem_cons_succ, List.setIfInBounds_toArray, List.set_cons_zero, List.set_cons_succ]
                refine wpAnyH_ready (rs := [14]) (by kernel_rfl) (by simp) ?_
                refine AllReadyH.cons rfl (fun K hK => ?_) AllReadyH.nil
                go_simp
                refine (CL.out _).mono ?_; rintro r w6 ⟨rfl, b6⟩
                go_wp2_with fail
                refine hK.out _ _ ?_ (fun hHeld => ?_)
                · (try dsimp only); exact ⟨((below_of_le b6 (Nat.le_trans hN0 B5.out.size)).cell hDl).trans hHeld.1, ((below_of_le b6 (Nat.le_trans hN0 B5.out.size)).cell hDl).trans hHeld.2.1, ((below_of_le b6 (Nat.le_trans hN0 B5.out.size)).cell hDl).trans hHeld.2.2.1, ((below_of_le b6 (Nat.le_trans hN0 B5.out.size)).cell hEl).trans hHeld.2.2.2.1, ((below_of_le b6 (Nat.le_trans hN0 B5.out.size)).cell hEl).trans hHeld.2.2.2.2.1, ((below_of_le b6 (Nat.le_trans hN0 B5.out.size)).cell hEl).trans hHeld.2.2.2.2.2.1, ((below_of_le b6 (Nat.le_trans hN0 B5.out.size)).cell hEl).trans hHeld.2.2.2.2.2.2.1, ((below_of_le b6 (Nat.le_trans hN0 B5.out.size)).cell hbl).trans hHeld.2.2.2.2.2.2.2.1, ((below_of_le b6 (Nat.le_trans hN0 B5.out.size)).cell hbl).trans hHeld.2.2.2.2.2.2.2.2.1, ((below_of_le b6 (Nat.le_trans hN0 B5.out.size)).cell hbl).trans hHeld.2.2.2.2.2.2.2.2.2⟩
                clear hK K
                try simp only [Act.put, List.getElem_toArray, List.getElem_cons_zero, List.getElem_cons_succ, List.setIfInBounds_toArray, List.set_cons_zero, List.set_cons_succ]
                have B6 := Lib.hid (B5.out.trans (below_of_le b6 (Nat.le_trans hN0 B5.out.size)))
                clear b6
                refine wpAnyH_take (i := 15) (v := ?_) rfl (by kernel_rfl) (by kernel_rfl) (by kernel_rfl) (fun _ _ _ h => h) (Or.inl ⟨by rfl, ?_⟩) (by assumption) ?_
                rotate_left
                first | (focus ((intro w hSw; (try dsimp only at hSw); go_simp); (try with_reducible rfl); done)) | fail
                try simp only [Act.put, List.getElem_toArray, List.getElem_cons_zero, List.getElem_cons_succ, List.setIfInBounds_toArray, List.set_cons_zero, List.set_cons_succ]
                refine wpAnyH_take (i := 16) (v := ?_) rfl (by kernel_rfl) (by kernel_rfl) (by kernel_rfl) (fun _ _ _ h => h) (Or.inl ⟨by rfl, ?_⟩) (by assumption) ?_
                rotate_left
                first | (focus ((intro w hSw; (try dsimp only at hSw); go_simp); (try with_reducible rfl); done)) | fail
                try simp only [Act.put, List.getElem_toArray, List.getElem_cons_zero, List.getElem_cons_succ, List.setIfInBounds_toArray, List.set_cons_zero, List.set_cons_succ]
                refine wpAnyH_take (i := 17) (v := ?_) rfl (by kernel_rfl) (by kernel_rfl) (by kernel_rfl) (fun _ _ _ h => h) (Or.inl ⟨by rfl, ?_⟩) (by assumption) ?_
                rotate_left
                first | (focus ((intro w hSw; (try dsimp only at hSw); go_simp); (try with_reducible rfl); done)) | fail
                try simp only [Act.put, List.getElem_toArray, List.getElem_cons_zero, List.getElem_cons_succ, List.setIfInBounds_toArray, List.set_cons_zero, List.set_cons_succ]
                refine wpAnyH_take (i := 18) (v := ?_) rfl (by kernel_rfl) (by kernel_rfl) (by kernel_rfl) (fun _ _ _ h => h) (Or.inl ⟨by rfl, ?_⟩) (by assumption) ?_
                rotate_left
                first | (focus ((intro w hSw; (try dsimp only at hSw); go_simp); (try with_reducible rfl); done)) | fail
                try simp only [Act.put, List.getElem_toArray, List.getElem_cons_zero, List.getElem_cons_succ, List.setIfInBounds_toArray, List.set_cons_zero, List.set_cons_succ]
                refine wpAnyH_take (i := 19) (v := ?_) rfl (by kernel_rfl) (by kernel_rfl) (by kernel_rfl) (fun _ _ _ h => h) (Or.inl ⟨by rfl, ?_⟩) (by assumption) ?_
                rotate_left
                first | (focus ((intro w hSw; (try dsimp only at hSw); go_simp); (try with_reducible rfl); done)) | fail
                try simp only [Act.put, List.getElem_toArray, List.getElem_cons_zero, List.getElem_cons_succ, List.setIfInBounds_toArray, List.set_cons_zero, List.set_cons_succ]
                refine wpAnyH_take (i := 20) (v := ?_) rfl (by kernel_rfl) (by kernel_rfl) (by kernel_rfl) (fun _ _ _ h => h) (Or.inl ⟨by rfl, ?_⟩) (by assumption) ?_
                rotate_left
                first | (focus ((intro w hSw; (try dsimp only at hSw); go_simp); (try with_reducible rfl); done)) | fail
                try simp only [Act.put, List.getElem_toArray, List.getElem_cons_zero, List.getElem_cons_succ, List.setIfInBounds_toArray, List.set_cons_zero, List.set_cons_succ]
                refine wpAnyH_take (i := 21) (v := ?_) rfl (by kernel_rfl) (by kernel_rfl) (by kernel_rfl) (fun _ _ _ h => h) (Or.inl ⟨by rfl, ?_⟩) (by assumption) ?_
                rotate_left
                first | (focus ((intro w hSw; (try dsimp only at hSw); go_simp); (try with_reducible rfl); done)) | fail
                try simp only [Act.put, List.getElem_toArray, List.getElem_cons_zero, List.getElem_cons_succ, List.setIfInBounds_toArray, List.set_cons_zero, List.set_cons_succ]
                refine wpAnyH_take (i := 22) (v := ?_) rfl (by kernel_rfl) (by kernel_rfl) (by kernel_rfl) (fun _ _ _ h => h) (Or.inl ⟨by rfl, ?_⟩) (by assumption) ?_
                rotate_left
                first | (focus ((intro w hSw; (try dsimp only at hSw); go_simp); (try with_reducible rfl); done)) | fail
                try simp only [Act.put, List.getElem_toArray, List.getElem_cons_zero, List.getElem_cons_succ, List.setIfInBounds_toArray, List.set_cons_zero, List.set_cons_succ]
                refine wpAnyH_take (i := 23) (v := ?_) rfl (by kernel_rfl) (by kernel_rfl) (by kernel_rfl) (fun _ _ _ h => h) (Or.inl ⟨by rfl, ?_⟩) (by assumption) ?_
                rotate_left
                first | (focus ((intro w hSw; (try dsimp only at hSw); go_simp); (try with_reducible rfl); done)) | fail
                try simp only [Act.put, List.getElem_toArray, List.getElem_cons_zero, List.getElem_cons_succ, List.setIfInBounds_toArray, List.set_cons_zero, List.set_cons_succ]
                refine wpAnyH_take (i := 24) (v := ?_) rfl (by kernel_rfl) (by kernel_rfl) (by kernel_rfl) (fun _ _ _ h => h) (Or.inl ⟨by rfl, ?_⟩) (by assumption) ?_
                rotate_left
                first | (focus ((intro w hSw; (try dsimp only at hSw); go_simp); (try with_reducible rfl); done)) | fail
                try simp only [Act.put, List.getElem_toArray, List.getElem_cons_zero, List.getElem_cons_succ, List.setIfInBounds_toArray, List.set_cons_zero, List.set_cons_succ]
                refine wpAnyH_take (i := 25) (v := ?_) rfl (by kernel_rfl) (by kernel_rfl) (by kernel_rfl) (fun _ _ _ h => h) (Or.inl ⟨by rfl, ?_⟩) (by assumption) ?_
                rotate_left
                first | (focus ((intro w hSw; (try dsimp only at hSw); go_simp); (try with_reducible rfl); done)) | fail
                try simp only [Act.put, List.getElem_toArray, List.getElem_cons_zero, List.getElem_cons_succ, List.setIfInBounds_toArray, List.set_cons_zero, List.set_cons_succ]
                refine wpAnyH_take (i := 26) (v := ?_) rfl (by kernel_rfl) (by kernel_rfl) (by kernel_rfl) (fun _ _ _ h => h) (Or.inl ⟨by rfl, ?_⟩) (by assumption) ?_
                rotate_left
                first | (focus ((intro w hSw; (try dsimp only at hSw); go_simp); (try with_reducible rfl); done)) | fail
                try simp only [Act.put, List.getElem_toArray, List.getElem_cons_zero, List.getElem_cons_succ, List.setIfInBounds_toArray, List.set_cons_zero, List.set_cons_succ]
                refine wpAnyH_take (i := 27) (v := ?_) rfl (by kernel_rfl) (by kernel_rfl) (by kernel_rfl) (fun _ _ _ h => h) (Or.inl ⟨by rfl, ?_⟩) (by assumption) ?_
                rotate_left
                first | (focus ((intro w hSw; (try dsimp only at hSw); go_simp); (try with_reducible rfl); done)) | fail
                try simp only [Act.put, List.getElem_toArray, List.getElem_cons_zero, List.getElem_cons_succ, List.setIfInBounds_toArray, List.set_cons_zero, List.set_cons_succ]
                refine wpAnyH_take (i := 28) (v := ?_) rfl (by kernel_rfl) (by kernel_rfl) (by kernel_rfl) (fun _ _ _ h => h) (Or.inl ⟨by rfl, ?_⟩) (by assumption) ?_
                rotate_left
                first | (focus ((intro w hSw; (try dsimp only at hSw); go_simp); (try with_reducible rfl); done)) | fail
                try simp only [Act.put, List.getElem_toArray, List.getElem_cons_zero, List.getElem_cons_succ, List.setIfInBounds_toArray, List.set_cons_zero, List.set_cons_succ]
                refine wpAnyH_take (i := 29) (v := ?_) rfl (by kernel_rfl) (by kernel_rfl) (by kernel_rfl) (fun _ _ _ h => h) (Or.inl ⟨by rfl, ?_⟩) (by assumption) ?_
                rotate_left
                first | (focus ((intro w hSw; (try dsimp only at hSw); go_simp); (try with_reducible rfl); done)) | fail
                try simp only [Act.put, List.getElem_toArray, List.getElem_cons_zero, List.getElem_cons_succ, List.setIfInBounds_toArray, List.set_cons_zero, List.set_cons_succ]
                refine wpAnyH_take (i := 30) (v := ?_) rfl (by kernel_rfl) (by kernel_rfl) (by kernel_rfl) (fun _ _ _ h => h) (Or.inl ⟨by rfl, ?_⟩) (by assumption) ?_
                rotate_left
                first | (focus ((intro w hSw; (try dsimp only at hSw); go_simp); (try with_reducible rfl); done)) | fail
                try simp only [Act.put, List.getElem_toArray, List.getElem_cons_zero, List.getElem_cons_succ, List.setIfInBounds_toArray, List.set_cons_zero, List.set_cons_succ]
                refine wpAnyH_take (i := 31) (v := ?_) rfl (by kernel_rfl) (by kernel_rfl) (by kernel_rfl) (fun _ _ _ h => h) (Or.inl ⟨by rfl, ?_⟩) (by assumption) ?_
                rotate_left
                first | (focus ((intro w hSw; (try dsimp only at hSw); go_simp); (try with_reducible rfl); done)) | fail
                try simp only [Act.put, List.getElem_toArray, List.getElem_cons_zero, List.getElem_cons_succ, List.setIfInBounds_toArray, List.set_cons_zero, List.set_cons_succ]
                refine wpAnyH_take (i := 32) (v := ?_) rfl (by kernel_rfl) (by kernel_rfl) (by kernel_rfl) (fun _ _ _ h => h) (Or.inl ⟨by rfl, ?_⟩) (by assumption) ?_
                rotate_left
                first | (focus ((intro w hSw; (try dsimp only at hSw); go_simp); (try with_reducible rfl); done)) | fail
                try simp only [Act.put, List.getElem_toArray, List.getElem_cons_zero, List.getElem_cons_succ, List.setIfInBounds_toArray, List.set_cons_zero, List.set_cons_succ]
                refine wpAnyH_take (i := 33) (v := ?_) rfl (by kernel_rfl) (by kernel_rfl) (by kernel_rfl) (fun _ _ _ h => h) (Or.inl ⟨by rfl, ?_⟩) (by assumption) ?_
                rotate_left
                first | (focus ((intro w hSw; (try dsimp only at hSw); go_simp); (try with_reducible rfl); done)) | fail
                try simp only [Act.put, List.getElem_toArray, List.getElem_cons_zero, List.getElem_cons_succ, List.setIfInBounds_toArray, List.set_cons_zero, List.set_cons_succ]
                refine wpAnyH_done (by kernel_rfl) ?_ _
                go_wp2
                go_roundw
                case rel => exact ⟨_, by omega, by go_num, ok_step HK.out.1 HXj.out HX.out, HEV1.out.drew.step B6.out⟩
                case measure => simp [intOf]; omega
            · have hEq : ∀ w : World, (binOp .eql 48 (.agg #[.int .i64 x1, .int .i64 x2]) (.agg #[.int .i64 o1, .int .i64 o2])).run Tryz.prog w = .ok (.bool false) w := fun w => by have h := eql_act x1 x2 o1 o2 w; unfold actV at h; rw [decide_eq_false hq] at h; exact h
              have hq1 : decide (((x1, x2) : Ac) = (o1, o2)) = false := decide_eq_false (fun e => hq ⟨congrArg Prod.fst e, congrArg Prod.snd e⟩)
              clear hq
              have HX := Lib.hid (show okP ((o1, o2), o3) (prevAt none L (k + 1)) ((x1, x2), x3) = true from by rw [HPV.out]; unfold okP; simp only; rw [hr', hq1, hl0]; rfl)
              clear hq1 hr' hl0
              refine wp_region_held_drew (S := (fun W => W.cell? ⟨D, 0, none⟩ = some (.int .i64 x1) ∧ W.cell? ⟨D, 1, none⟩ = some (.int .i64 x2) ∧ W.cell? ⟨D, 2, none⟩ = some (.int .i64 x3) ∧ W.cell? ⟨w.heap.size, 0, none⟩ = some (.int .i64 o1) ∧ W.cell? ⟨w.heap.size, 1, none⟩ = some (.int .i64 o2) ∧ W.cell? ⟨w.heap.size, 2, none⟩ = some (.int .i64 o3) ∧ W.cell? ⟨w.heap.size, 18, none⟩ = some (.slice (some ⟨b0, o0, none⟩) n c) ∧ W.cell? ⟨b0, o0 + k * 3, none⟩ = some (.int .i64 p1) ∧ W.cell? ⟨b0, o0 + k * 3 + 1, none⟩ = some (.int .i64 p2) ∧ W.cell? ⟨b0, o0 + k * 3 + 2, none⟩ = some (.int .i64 p3))) (by kernel_rfl) ?_ (fun hHeld => ?_)
              · (try dsimp only); exact HS.out
              refine wpAnyH_take (i := 0) (v := ?_) rfl (by kernel_rfl) (by kernel_rfl) (by kernel_rfl) (fun _ _ _ h => h) (Or.inl ⟨by rfl, ?_⟩) (by assumption) ?_
              rotate_left
              first | (focus ((intro w hSw; (try dsimp only at hSw); go_simp); (try with_reducible rfl); done)) | fail
              try simp only [Act.put, List.getElem_toArray, List.getElem_cons_zero, List.setIfInBounds_toArray, List.set_cons_zero, List.set_cons_succ]
              refine wpAnyH_ready (rs := [1]) (by kernel_rfl) (by simp) ?_
              refine AllReadyH.cons rfl (fun K hK => ?_) AllReadyH.nil
              go_simp
              refine (CR.out _).mono ?_; rintro r w5 ⟨rfl, b5⟩
              go_wp2_with fail
              refine hK.out _ _ ?_ (fun hHeld => ?_)
              · (try dsimp only); exact ⟨((below_of_le b5 hN0).cell hDl).trans hHeld.1, ((below_of_le b5 hN0).cell hDl).trans hHeld.2.1, ((below_of_le b5 hN0).cell hDl).trans hHeld.2.2.1, ((below_of_le b5 hN0).cell hEl).trans hHeld.2.2.2.1, ((below_of_le b5 hN0).cell hEl).trans hHeld.2.2.2.2.1, ((below_of_le b5 hN0).cell hEl).trans hHeld.2.2.2.2.2.1, ((below_of_le b5 hN0).cell hEl).trans hHeld.2.2.2.2.2.2.1, ((below_of_le b5 hN0).cell hbl).trans hHeld.2.2.2.2.2.2.2.1, ((below_of_le b5 hN0).cell hbl).trans hHeld.2.2.2.2.2.2.2.2.1, ((below_of_le b5 hN0).cell hbl).trans hHeld.2.2.2.2.2.2.2.2.2⟩
              clear hK K
              try simp only [Act.put, List.getElem_toArray, List.getElem_cons_zero, List.getElem_cons_succ, List.setIfInBounds_toArray, List.set_cons_zero, List.set_cons_succ]
              have B5 := Lib.hid (below_of_le b5 hN0)
              clear b5
              refine wpAnyH_take (i := 2) (v := ?_) rfl (by kernel_rfl) (by kernel_rfl) (by kernel_rfl) (fun _ _ _ h => h) (Or.inl ⟨by rfl, ?_⟩) (by assumption) ?_
              rotate_left
              first | (focus ((intro w hSw; (try dsimp only at hSw); go_simp); (try with_reducible rfl); done)) | fail
              try simp only [Act.put, List.getElem_toArray, List.getElem_cons_zero, List.getElem_cons_succ, List.setIfInBounds_toArray, List.set_cons_zero, List.set_cons_succ]
              refine wpAnyH_take (i := 3) (v := ?_) rfl (by kernel_rfl) (by kernel_rfl) (by kernel_rfl) (fun _ _ _ h => h) (Or.inl ⟨by rfl, ?_⟩) (by assumption) ?_
              rotate_left
              first | (focus ((intro w hSw; (try dsimp only at hSw); go_simp); (try with_reducible rfl); done)) | fail
              try simp only [Act.put, List.getElem_toArray, List.getElem_cons_zero, List.getElem_cons_succ, List.setIfInBounds_toArray, List.set_cons_zero, List.set_cons_succ]
              refine wpAnyH_take (i := 4) (v := ?_) rfl (by kernel_rfl) (by kernel_rfl) (by kernel_rfl) (fun _ _ _ h => h) (Or.inl ⟨by rfl, ?_⟩) (by assumption) ?_
              rotate_left
              first | (focus ((intro w hSw; (try dsimp only at hSw); go_simp); (try with_reducible rfl); done)) | fail
              try simp only [Act.put, List.getElem_toArray, List.getElem_cons_zero, List.getElem_cons_succ, List.setIfInBounds_toArray, List.set_cons_zero, List.set_cons_succ]
              refine wpAnyH_take (i := 5) (v := ?_) rfl (by kernel_rfl) (by kernel_rfl) (by kernel_rfl) (fun _ _ _ h => h) (Or.inl ⟨by rfl, ?_⟩) (by assumption) ?_
              rotate_left
              first | (focus ((intro w hSw; (try dsimp only at hSw); go_simp); (try with_reducible rfl); done)) | fail
              try simp only [Act.put, List.getElem_toArray, List.getElem_cons_zero, List.getElem_cons_succ, List.setIfInBounds_toArray, List.set_cons_zero, List.set_cons_succ]
              refine wpAnyH_take (i := 6) (v := ?_) rfl (by kernel_rfl) (by kernel_rfl) (by kernel_rfl) (fun _ _ _ h => h) (Or.inl ⟨by rfl, ?_⟩) (by assumption) ?_
              rotate_left
              first | (focus ((intro w hSw; (try dsimp only at hSw); go_simp); (try with_reducible rfl); done)) | fail
              try simp only [Act.put, List.getElem_toArray, List.getElem_cons_zero, List.getElem_cons_succ, List.setIfInBounds_toArray, List.set_cons_zero, List.set_cons_succ]
              refine wpAnyH_take (i := 7) (v := ?_) rfl (by kernel_rfl) (by kernel_rfl) (by kernel_rfl) (fun _ _ _ h => h) (Or.inl ⟨by rfl, ?_⟩) (by assumption) ?_
              rotate_left
              first | (focus ((intro w hSw; (try dsimp only at hSw); go_simp); (try with_reducible rfl); done)) | fail
              try simp only [Act.put, List.getElem_toArray, List.getElem_cons_zero, List.getElem_cons_succ, List.setIfInBounds_toArray, List.set_cons_zero, List.set_cons_succ]
              refine wpAnyH_take (i := 8) (v := ?_) rfl (by kernel_rfl) (by kernel_rfl) (by kernel_rfl) (fun _ _ _ h => h) (Or.inl ⟨by rfl, ?_⟩) (by assumption) ?_
              rotate_left
              first | (focus ((intro w hSw; (try dsimp only at hSw); go_simp); (try with_reducible rfl); done)) | fail
              try simp only [Act.put, List.getElem_toArray, List.getElem_cons_zero, List.getElem_cons_succ, List.setIfInBounds_toArray, List.set_cons_zero, List.set_cons_succ]
              refine wpAnyH_take (i := 9) (v := ?_) rfl (by kernel_rfl) (by kernel_rfl) (by kernel_rfl) (fun _ _ _ h => h) (Or.inl ⟨by rfl, ?_⟩) (by assumption) ?_
              rotate_left
              first | (focus ((intro w hSw; (try dsimp only at hSw); go_simp); (try with_reducible rfl); done)) | fail
              try simp only [Act.put, List.getElem_toArray, List.getElem_cons_zero, List.getElem_cons_succ, List.setIfInBounds_toArray, List.set_cons_zero, List.set_cons_succ]
              refine wpAnyH_take (i := 10) (v := ?_) rfl (by kernel_rfl) (by kernel_rfl) (by kernel_rfl) (fun _ _ _ h => h) (Or.inl ⟨by rfl, ?_⟩) (by assumption) ?_
              rotate_left
              first | (focus ((intro w hSw; (try dsimp only at hSw); go_simp); (try with_reducible rfl); done)) | fail
              try simp only [Act.put, List.getElem_toArray, List.getElem_cons_zero, List.getElem_cons_succ, List.setIfInBounds_toArray, List.set_cons_zero, List.set_cons_succ]
              refine wpAnyH_take (i := 11) (v := ?_) rfl (by kernel_rfl) (by kernel_rfl) (by kernel_rfl) (fun _ _ _ h => h) (Or.inl ⟨by rfl, ?_⟩) (by assumption) ?_
              rotate_left
              first | (focus ((intro w hSw; (try dsimp only at hSw); go_simp); (try with_reducible rfl); done)) | fail
              try simp only [Act.put, List.getElem_toArray, List.getElem_cons_zero, List.getElem_cons_succ, List.setIfInBounds_toArray, List.set_cons_zero, List.set_cons_succ]
              refine wpAnyH_take (i := 12) (v := ?_) rfl (by kernel_rfl) (by kernel_rfl) (by kernel_rfl) (fun _ _ _ h => h) (Or.inl ⟨by rfl, ?_⟩) (by assumption) ?_
              rotate_left
              first | (focus ((intro w hSw; (try dsimp only at hSw); go_simp); (try with_reducible rfl); done)) | fail
              try simp only [Act.put, List.getElem_toArray, List.getElem_cons_zero, List.getElem_cons_succ, List.setIfInBounds_toArray, List.set_cons_zero, List.set_cons_succ]
              refine wpAnyH_take (i := 13) (v := ?_) rfl (by kernel_rfl) (by kernel_rfl) (by kernel_rfl) (fun _ _ _ h => h) (Or.inl ⟨by rfl, ?_⟩) (by assumption) ?_
              rotate_left
              first | (focus ((intro w hSw; (try dsimp only at hSw); go_simp); (try with_reducible rfl); done)) | fail
              try simp only [Act.put, List.getElem_toArray, List.getElem_cons_zero, List.getElem_cons_succ, List.setIfInBounds_toArray, List.set_cons_zero, List.set_cons_succ]
              refine wpAnyH_ready (rs := [14]) (by kernel_rfl) (by simp) ?_
              refine AllReadyH.cons rfl (fun K hK => ?_) AllReadyH.nil
              go_simp
              refine (CL.out _).mono ?_; rintro r w6 ⟨rfl, b6⟩
              go_wp2_with fail
              refine hK.out _ _ ?_ (fun hHeld => ?_)
              · (try dsimp only); exact ⟨((below_of_le b6 (Nat.le_trans hN0 B5.out.size)).cell hDl).trans hHeld.1, ((below_of_le b6 (Nat.le_trans hN0 B5.out.size)).cell hDl).trans hHeld.2.1, ((below_of_le b6 (Nat.le_trans hN0 B5.out.size)).cell hDl).trans hHeld.2.2.1, ((below_of_le b6 (Nat.le_trans hN0 B5.out.size)).cell hEl).trans hHeld.2.2.2.1, ((below_of_le b6 (Nat.le_trans hN0 B5.out.size)).cell hEl).trans hHeld.2.2.2.2.1, ((below_of_le b6 (Nat.le_trans hN0 B5.out.size)).cell hEl).trans hHeld.2.2.2.2.2.1, ((below_of_le b6 (Nat.le_trans hN0 B5.out.size)).cell hEl).trans hHeld.2.2.2.2.2.2.1, ((below_of_le b6 (Nat.le_trans hN0 B5.out.size)).cell hbl).trans hHeld.2.2.2.2.2.2.2.1, ((below_of_le b6 (Nat.le_trans hN0 B5.out.size)).cell hbl).trans hHeld.2.2.2.2.2.2.2.2.1, ((below_of_le b6 (Nat.le_trans hN0 B5.out.size)).cell hbl).trans hHeld.2.2.2.2.2.2.2.2.2⟩
              clear hK K
              try simp only [Act.put, List.getElem_toArray, List.getElem_cons_zero, List.getElem_cons_succ, List.setIfInBounds_toArray, List.set_cons_zero, List.set_cons_succ]
              have B6 := Lib.hid (B5.out.trans (below_of_le b6 (Nat.le_trans hN0 B5.out.size)))
              clear b6
              refine wpAnyH_take (i := 15) (v := ?_) rfl (by kernel_rfl) (by kernel_rfl) (by kernel_rfl) (fun _ _ _ h => h) (Or.inl ⟨by rfl, ?_⟩) (by assumption) ?_
              rotate_left
              first | (focus ((intro w hSw; (try dsimp only at hSw); go_simp); (try with_reducible rfl); done)) | fail
              try simp only [Act.put, List.getElem_toArray, List.getElem_cons_zero, List.getElem_cons_succ, List.setIfInBounds_toArray, List.set_cons_zero, List.set_cons_succ]
              refine wpAnyH_take (i := 16) (v := ?_) rfl (by kernel_rfl) (by kernel_rfl) (by kernel_rfl) (fun _ _ _ h => h) (Or.inl ⟨by rfl, ?_⟩) (by assumption) ?_
              rotate_left
              first | (focus ((intro w hSw; (try dsimp only at hSw); go_simp); (try with_reducible rfl); done)) | fail
              try simp only [Act.put, List.getElem_toArray, List.getElem_cons_zero, List.getElem_cons_succ, List.setIfInBounds_toArray, List.set_cons_zero, List.set_cons_succ]
              refine wpAnyH_take (i := 17) (v := ?_) rfl (by kernel_rfl) (by kernel_rfl) (by kernel_rfl) (fun _ _ _ h => h) (Or.inl ⟨by rfl, ?_⟩) (by assumption) ?_
              rotate_left
              first | (focus ((intro w hSw; (try dsimp only at hSw); go_simp); (try with_reducible rfl); done)) | fail
              try simp only [Act.put, List.getElem_toArray, List.getElem_cons_zero, List.getElem_cons_succ, List.setIfInBounds_toArray, List.set_cons_zero, List.set_cons_succ]
              refine wpAnyH_take (i := 18) (v := ?_) rfl (by kernel_rfl) (by kernel_rfl) (by kernel_rfl) (fun _ _ _ h => h) (Or.inl ⟨by rfl, ?_⟩) (by assumption) ?_
              rotate_left
              first | (focus ((intro w hSw; (try dsimp only at hSw); go_simp); (try with_reducible rfl); done)) | fail
              try simp only [Act.put, List.getElem_toArray, List.getElem_cons_zero, List.getElem_cons_succ, List.setIfInBounds_toArray, List.set_cons_zero, List.set_cons_succ]
              refine wpAnyH_take (i := 19) (v := ?_) rfl (by kernel_rfl) (by kernel_rfl) (by kernel_rfl) (fun _ _ _ h => h) (Or.inl ⟨by rfl, ?_⟩) (by assumption) ?_
              rotate_left
              first | (focus ((intro w hSw; (try dsimp only at hSw); go_simp); (try with_reducible rfl); done)) | fail
              try simp only [Act.put, List.getElem_toArray, List.getElem_cons_zero, List.getElem_cons_succ, List.setIfInBounds_toArray, List.set_cons_zero, List.set_cons_succ]
              refine wpAnyH_take (i := 20) (v := ?_) rfl (by kernel_rfl) (by kernel_rfl) (by kernel_rfl) (fun _ _ _ h => h) (Or.inl ⟨by rfl, ?_⟩) (by assumption) ?_
              rotate_left
              first | (focus ((intro w hSw; (try dsimp only at hSw); go_simp); (try with_reducible rfl); done)) | fail
              try simp only [Act.put, List.getElem_toArray, List.getElem_cons_zero, List.getElem_cons_succ, List.setIfInBounds_toArray, List.set_cons_zero, List.set_cons_succ]
              refine wpAnyH_take (i := 21) (v := ?_) rfl (by kernel_rfl) (by kernel_rfl) (by kernel_rfl) (fun _ _ _ h => h) (Or.inl ⟨by rfl, ?_⟩) (by assumption) ?_
              rotate_left
              first | (focus ((intro w hSw; (try dsimp only at hSw); go_simp); (try with_reducible rfl); done)) | fail
              try simp only [Act.put, List.getElem_toArray, List.getElem_cons_zero, List.getElem_cons_succ, List.setIfInBounds_toArray, List.set_cons_zero, List.set_cons_succ]
              refine wpAnyH_take (i := 22) (v := ?_) rfl (by kernel_rfl) (by kernel_rfl) (by kernel_rfl) (fun _ _ _ h => h) (Or.inl ⟨by rfl, ?_⟩) (by assumption) ?_
              rotate_left
              first | (focus ((intro w hSw; (try dsimp only at hSw); go_simp); (try with_reducible rfl); done)) | fail
              try simp only [Act.put, List.getElem_toArray, List.getElem_cons_zero, List.getElem_cons_succ, List.setIfInBounds_toArray, List.set_cons_zero, List.set_cons_succ]
              refine wpAnyH_take (i := 23) (v := ?_) rfl (by kernel_rfl) (by kernel_rfl) (by kernel_rfl) (fun _ _ _ h => h) (Or.inl ⟨by rfl, ?_⟩) (by assumption) ?_
              rotate_left
              first | (focus ((intro w hSw; (try dsimp only at hSw); go_simp); (try with_reducible rfl); done)) | fail
              try simp only [Act.put, List.getElem_toArray, List.getElem_cons_zero, List.getElem_cons_succ, List.setIfInBounds_toArray, List.set_cons_zero, List.set_cons_succ]
              refine wpAnyH_take (i := 24) (v := ?_) rfl (by kernel_rfl) (by kernel_rfl) (by kernel_rfl) (fun _ _ _ h => h) (Or.inl ⟨by rfl, ?_⟩) (by assumption) ?_
              rotate_left
              first | (focus ((intro w hSw; (try dsimp only at hSw); go_simp); (try with_reducible rfl); done)) | fail
              try simp only [Act.put, List.getElem_toArray, List.getElem_cons_zero, List.getElem_cons_succ, List.setIfInBounds_toArray, List.set_cons_zero, List.set_cons_succ]
              refine wpAnyH_take (i := 25) (v := ?_) rfl (by kernel_rfl) (by kernel_rfl) (by kernel_rfl) (fun _ _ _ h => h) (Or.inl ⟨by rfl, ?_⟩) (by assumption) ?_
              rotate_left
              first | (focus ((intro w hSw; (try dsimp only at hSw); go_simp); (try with_reducible rfl); done)) | fail
              try simp only [Act.put, List.getElem_toArray, List.getElem_cons_zero, List.getElem_cons_succ, List.setIfInBounds_toArray, List.set_cons_zero, List.set_cons_succ]
              refine wpAnyH_take (i := 26) (v := undef) rfl (by kernel_rfl) (by kernel_rfl) (by kernel_rfl) (fun _ _ _ h => h) (Or.inr ⟨by rfl, rfl⟩) (by assumption) ?_
              try simp only [Act.put, List.getElem_toArray, List.getElem_cons_zero, List.getElem_cons_succ, List.setIfInBounds_toArray, List.set_cons_zero, List.set_cons_succ]
              refine wpAnyH_take (i := 27) (v := undef) rfl (by kernel_rfl) (by kernel_rfl) (by kernel_rfl) (fun _ _ _ h => h) (Or.inr ⟨by rfl, rfl⟩) (by assumption) ?_
              try simp only [Act.put, List.getElem_toArray, List.getElem_cons_zero, List.getElem_cons_succ, List.setIfInBounds_toArray, List.set_cons_zero, List.set_cons_succ]
              refine wpAnyH_take (i := 28) (v := undef) rfl (by kernel_rfl) (by kernel_rfl) (by kernel_rfl) (fun _ _ _ h => h) (Or.inr ⟨by rfl, rfl⟩) (by assumption) ?_
              try simp only [Act.put, List.getElem_toArray, List.getElem_cons_zero, List.getElem_cons_succ, List.setIfInBounds_toArray, List.set_cons_zero, List.set_cons_succ]
              refine wpAnyH_take (i := 29) (v := undef) rfl (by kernel_rfl) (by kernel_rfl) (by kernel_rfl) (fun _ _ _ h => h) (Or.inr ⟨by rfl, rfl⟩) (by assumption) ?_
              try simp only [Act.put, List.getElem_toArray, List.getElem_cons_zero, List.getElem_cons_succ, List.setIfInBounds_toArray, List.set_cons_zero, List.set_cons_succ]
              refine wpAnyH_take (i := 30) (v := undef) rfl (by kernel_rfl) (by kernel_rfl) (by kernel_rfl) (fun _ _ _ h => h) (Or.inr ⟨by rfl, rfl⟩) (by assumption) ?_
              try simp only [Act.put, List.getElem_toArray, List.getElem_cons_zero, List.getElem_cons_succ, List.setIfInBounds_toArray, List.set_cons_zero, List.set_cons_succ]
              refine wpAnyH_take (i := 31) (v := undef) rfl (by kernel_rfl) (by kernel_rfl) (by kernel_rfl) (fun _ _ _ h => h) (Or.inr ⟨by rfl, rfl⟩) (by assumption) ?_
              try simp only [Act.put, List.getElem_toArray, List.getElem_cons_zero, List.getElem_cons_succ, List.setIfInBounds_toArray, List.set_cons_zero, List.set_cons_succ]
              refine wpAnyH_take (i := 32) (v := ?_) rfl (by kernel_rfl) (by kernel_rfl) (by kernel_rfl) (fun _ _ _ h => h) (Or.inl ⟨by rfl, ?_⟩) (by assumption) ?_
              rotate_left
              first | (focus ((intro w hSw; (try dsimp only at hSw); go_simp); (try with_reducible rfl); done)) | fail
              try simp only [Act.put, List.getElem_toArray, List.getElem_cons_zero, List.getElem_cons_succ, List.setIfInBounds_toArray, List.set_cons_zero, List.set_cons_succ]
              refine wpAnyH_take (i := 33) (v := ?_) rfl (by kernel_rfl) (by kernel_rfl) (by kernel_rfl) (fun _ _ _ h => h) (Or.inl ⟨by rfl, ?_⟩) (by assumption) ?_
              rotate_left
              first | (focus ((intro w hSw; (try dsimp only at hSw); go_simp); (try with_reducible rfl); done)) | fail
              try simp only [Act.put, List.getElem_toArray, List.getElem_cons_zero, List.getElem_cons_succ, List.setIfInBounds_toArray, List.set_cons_zero, List.set_cons_succ]
              refine wpAnyH_done (by kernel_rfl) ?_ _
              go_wp2
              go_roundw
              case rel => exact ⟨_, by omega, by go_num, ok_step HK.out.1 HXj.out HX.out, HEV1.out.drew.step B6.out⟩
              case measure => simp [intOf]; omega
    · have hX := Lib.hid (ovG_yes (p := none) (fun k x hx => HK.out.1 k x (by have := (List.getElem?_eq_some_iff.1 hx).1; have := HLn.out; omega) hx))
      obtain ⟨k0, k1, k2, k3, k4, k5, k6, k7, k8, k9, k10, k11, k12, k13, k14, k15, k16, k17, k18⟩ := HK.out.2.all
      simp only at k0 k1 k2 k3 k4 k5 k6 k7 k8 k9 k10 k11 k12 k13 k14 k15 k16 k17 k18
      rw [HLn.out] at k18
      have HW := Lib.hid (Whole.new wr 121 #[.string (bs name), .string (bs dom), .string (bs path), .string (bs value), .bool ho, .bool se, .bool ht, .bool pe, .int .i64 exp, .int .i64 cre, .int .i64 acc])
      have HB := Lib.hid (show Below w.heap.size w (wr.alloc (.cells #[.string (bs name), .string (bs dom), .string (bs path), .string (bs value), .bool ho, .bool se, .bool ht, .bool pe, .int .i64 exp, .int .i64 cre, .int .i64 acc] 121)) from HK.out.2.2.2.1.alloc HK.out.2.2.2.2 _)
      obtain ⟨_, _, _, _, _, _, m6, _, _, _, _, _, _, _, _, _, _, _, m18⟩ := (HK.out.2.alloc (.cells #[.string (bs name), .string (bs dom), .string (bs path), .string (bs value), .bool ho, .bool se, .bool ht, .bool pe, .int .i64 exp, .int .i64 cre, .int .i64 acc] 121)).all
      simp only at m6 m18
      rw [HLn.out] at m18
      have HEQ2 := HEQ.out
      by_cases hk1 : kind = 1
      · have t1 : (kind == 1) = true := by rw [beq_iff_eq]; exact hk1
        have HK1 := Lib.hid hk1
        clear hk1 hs HEQ2
        go_wp2_with (refine ld_whole (by rfl) _ rfl rfl HW.out Tryz.underlying121 rfl (by kernel_rfl) ?_)
        refine (CI.out _).mono ?_; rintro r w5 ⟨rfl, b5⟩
        go_wp2
        go_ret
        exact ⟨by rw [HV.out, hX.out, if_neg (by rw [HK1.out]; decide), if_pos HK1.out]; rfl, HB.out.trans (below_of_le b5 (by have := HB.out.size; simpa using this))⟩
      · have t1 : (kind == 1) = false := by rw [beq_eq_false_iff_ne]; exact hk1
        have HK1 := Lib.hid hk1
        clear hk1 hs CI
        by_cases hk2 : kind = 2
        · have t2 : (kind == 2) = true := by rw [beq_iff_eq]; exact hk2
          have HK2 := Lib.hid hk2
          clear hk2
          generalize zeroB (⟨((o1, o2), o3), st, kind, name, dom, path, value, ho, se, ht, pe, exp, cre, acc, L⟩ : Ed) = P5 at *
          cases P5 with
          | false =>
            go_wp2_with (refine ld_whole (by rfl) _ rfl rfl HW.out Tryz.underlying121 rfl (by kernel_rfl) ?_)
            go_ret
            exact ⟨by rw [HV.out, hX.out, if_pos HK2.out]; rfl, HB.out⟩
          | true =>
            cases q6 : decide (0 < n) with
            | true =>
              have t6 : decide ((0 : Int) < (n : Int)) = true := decide_eq_true (by have := of_decide_eq_true q6; omega)
              have HQ := Lib.hid q6
              go_wp2_with (refine ld_whole (by rfl) _ rfl rfl HW.out Tryz.underlying121 rfl (by kernel_rfl) ?_)
              go_ret
              exact ⟨by rw [HV.out, hX.out, if_pos HK2.out, HQ.out]; rfl, HB.out⟩
            | false =>
              have t6 : decide ((0 : Int) < (n : Int)) = false := decide_eq_false (by have := of_decide_eq_false q6; omega)
              have HQ := Lib.hid q6
              go_wp2_with (refine ld_whole (by rfl) _ rfl rfl HW.out Tryz.underlying121 rfl (by kernel_rfl) ?_)
              go_ret
              exact ⟨by rw [HV.out, hX.out, if_pos HK2.out, HQ.out]; rfl, HB.out⟩
        · have t2 : (kind == 2) = false := by rw [beq_eq_false_iff_ne]; exact hk2
          have HK2 := Lib.hid hk2
          clear hk2
          go_wp2
          go_ret
          exact ⟨by rw [HV.out, hX.out, if_neg HK2.out, if_neg HK1.out]; rfl, HB.out⟩
theorem rright20_any (e : Ed) (A : Option Addr) (c : Nat) (w : World) (h : MsAt w A e.over) (hs : short e) : Calls Tryz.prog 26 #[evV e A c] w fun r w' => r = .returned (.bool (evB e)) ∧ Below w.heap.size w w' := by
  have hv : evB e = ((dotB e.dot.1.1 e.dot.1.2 e.dot.2 && stB e.st.1 e.st.2.1 e.st.2.2 && (e.st.2.2 == e.dot.1.1) && decide (e.over.length ≤ 64)) && (ovG e.dot none e.over && (if e.kind = 2 then zeroB e && decide (0 < e.over.length) else if e.kind = 1 then itemB e.name e.dom e.path e.value e.pe e.exp e.cre e.acc else false))) := by
    rw [evB_eq]
    unfold overB
    simp only [Bool.and_assoc]
  rw [hv]
  cases hq : (dotB e.dot.1.1 e.dot.1.2 e.dot.2 && stB e.st.1 e.st.2.1 e.st.2.2 && (e.st.2.2 == e.dot.1.1) && decide (e.over.length ≤ 64)) with
  | false => exact rright20_no e A c w h hs hq
  | true =>
    rw [Bool.true_and]
    exact rright20_yes e A c w h hs hq
end Go.Proofs.YtpakmeegldgjmaaGreat
/- Layer 20 (event): Put. -/
namespace Go.Proofs.YtpakmeegldgjmaaGreat
open Go.RowKit
set_option linter.unusedVariables false
set_option linter.unusedSimpArgs false
set_option maxRecDepth 100000
attribute [local go_sem ↓] Go.wp_at_zero Go.wp_at_succ
attribute [local go_sem] bs_size bs_list bs_nil_list

/-- What is told while an event is packed: the writer, the event's box, its cookie's, its Over. -/
structure PS (w0 : World) (base b : Nat) (A0 : Option Addr) (E C : Nat) (e : Ed) (Ao : Option Addr) (co : Nat) (W : World) (A : Option Addr) (c : Nat) (l : List UInt8) : Prop where
  wr : Wr W base b A c l
  ev : Whole W E 59 (evA e Ao co)
  ck : Whole W C 56 (cookC e)
  eb : E ≠ b
  cb : C ≠ b
  ea : bl A ≠ some E
  ca : bl A ≠ some C
  ov : Ds W base Ao e.over
  st : WStep w0 W b A0 A
  sz : base ≤ W.heap.size
section
variable {w0 W W' : World} {base b E C co c c' : Nat} {A0 Ao A A' : Option Addr} {e : Ed} {l l' : List UInt8}
theorem wstep_below (h : Wr W base b A c l) (hs : base ≤ W.heap.size) (st : WStep W W' b A A') : Below base W W' :=
  st.1.below (fun k hk e => by
    rcases e with e | e
    · have := h.1; omega
    · have := (h.2.2.block_lt k (by rw [ownBlock_bl]; exact e)).1; omega) hs
theorem PS.step (h : PS w0 base b A0 E C e Ao co W A c l) (hw : Wr W' base b A' c' l') (st : WStep W W' b A A') : PS w0 base b A0 E C e Ao co W' A' c' l' := by
  have hb := wstep_below h.wr h.sz st
  refine ⟨hw, h.ev.ch st.1 ?_, h.ck.ch st.1 ?_, h.eb, h.cb, ?_, ?_, Ds.below h.ov hb, h.st.trans st, Nat.le_trans h.sz hb.size⟩
  · rintro (e | e)
    · exact h.eb e
    · exact h.ea e
  · rintro (e | e)
    · exact h.cb e
    · exact h.ca e
  · intro e
    rcases st.2 _ e with e | e
    · exact h.ea e
    · have := h.ev.lt; omega
  · intro e
    rcases st.2 _ e with e | e
    · exact h.ca e
    · have := h.ck.lt; omega
theorem PS.low (h : PS w0 base b A0 E C e Ao co W A c l) (k : Below W.heap.size W W') : PS w0 base b A0 E C e Ao co W' A c l :=
  ⟨h.wr.below k, h.ev.below k h.ev.lt, h.ck.below k h.ck.lt, h.eb, h.cb, h.ea, h.ca, Ds.below h.ov (below_of_le k h.sz), h.st.below k, Nat.le_trans h.sz k.size⟩
theorem PS.cells (h : PS w0 base b A0 E C e Ao co W A c l) : W.cell? ⟨E, 0, none⟩ = some (.int .i64 e.dot.1.1) ∧ W.cell? ⟨E, 1, none⟩ = some (.int .i64 e.dot.1.2) ∧ W.cell? ⟨E, 2, none⟩ = some (.int .i64 e.dot.2) ∧ W.cell? ⟨E, 3, none⟩ = some (.int .i64 e.st.1) ∧ W.cell? ⟨E, 4, none⟩ = some (.int .i64 e.st.2.1) ∧ W.cell? ⟨E, 5, none⟩ = some (.int .i64 e.st.2.2) ∧ W.cell? ⟨E, 6, none⟩ = some (.int .i64 e.kind) ∧ W.cell? ⟨E, 7, none⟩ = some (.string (bs e.name)) ∧ W.cell? ⟨E, 8, none⟩ = some (.string (bs e.dom)) ∧ W.cell? ⟨E, 9, none⟩ = some (.string (bs e.path)) ∧ W.cell? ⟨E, 18, none⟩ = some (.slice Ao e.over.length co) ∧ W.cell? ⟨C, 0, none⟩ = some (.string (bs e.value)) ∧ W.cell? ⟨C, 1, none⟩ = some (.bool e.ho) ∧ W.cell? ⟨C, 2, none⟩ = some (.bool e.se) ∧ W.cell? ⟨C, 3, none⟩ = some (.bool e.ht) ∧ W.cell? ⟨C, 4, none⟩ = some (.bool e.pe) ∧ W.cell? ⟨C, 5, none⟩ = some (.int .i64 e.exp) ∧ W.cell? ⟨C, 6, none⟩ = some (.int .i64 e.cre) ∧ W.cell? ⟨C, 7, none⟩ = some (.int .i64 e.acc) := by
  refine ⟨?_, ?_, ?_, ?_, ?_, ?_, ?_, ?_, ?_, ?_, ?_, ?_, ?_, ?_, ?_, ?_, ?_, ?_, ?_⟩
  all_goals first | (rw [h.ev.cell]; rfl) | (rw [h.ck.cell]; rfl)
theorem PS.strs (h : PS w0 base b A0 E C e Ao co W A c l) : W.cell? ⟨E, 7, none⟩ = some (.string (bs e.name)) ∧ W.cell? ⟨E, 8, none⟩ = some (.string (bs e.dom)) ∧ W.cell? ⟨E, 9, none⟩ = some (.string (bs e.path)) ∧ W.cell? ⟨C, 0, none⟩ = some (.string (bs e.value)) := by
  refine ⟨?_, ?_, ?_, ?_⟩
  all_goals first | (rw [h.ev.cell]; rfl) | (rw [h.ck.cell]; rfl)
theorem PS.nums (h : PS w0 base b A0 E C e Ao co W A c l) : W.cell? ⟨C, 5, none⟩ = some (.int .i64 e.exp) ∧ W.cell? ⟨C, 6, none⟩ = some (.int .i64 e.cre) ∧ W.cell? ⟨C, 7, none⟩ = some (.int .i64 e.acc) := by
  refine ⟨?_, ?_, ?_⟩
  all_goals (rw [h.ck.cell]; rfl)
end
/-- What an event that may be is. -/
structure EvOk (e : Ed) : Prop where
  dot : dotB e.dot.1.1 e.dot.1.2 e.dot.2 = true
  st : stB e.st.1 e.st.2.1 e.st.2.2 = true
  over : e.over.length ≤ 64
  kind : e.kind = 1 ∨ e.kind = 2
  lens : e.kind = 1 → e.name.length ≤ 256 ∧ e.dom.length ≤ 256 ∧ e.path.length ≤ 256 ∧ e.value.length ≤ 1024
  times : e.kind = 1 → -1099511627776 ≤ e.exp ∧ e.exp ≤ 1099511627776 ∧ 0 ≤ e.cre ∧ e.cre ≤ 1099511627776 ∧ 0 ≤ e.acc ∧ e.acc ≤ 1099511627776
  rights : ∀ x ∈ e.over, rightD x = true
theorem ev_ok {e : Ed} (h : evB e = true) : EvOk e := by
  unfold evB at h
  simp only [Bool.and_eq_true] at h
  obtain ⟨⟨⟨⟨h1, h2⟩, h3⟩, h4⟩, h5⟩ := h
  unfold overB at h4
  rw [Bool.and_eq_true, decide_eq_true_eq] at h4
  have hk : e.kind = 1 ∨ e.kind = 2 := by
    by_cases h2 : e.kind = 2
    · exact .inr h2
    · rw [if_neg h2] at h5
      by_cases h1 : e.kind = 1
      · exact .inl h1
      · rw [if_neg h1] at h5; cases h5
  have hi : e.kind = 1 → itemB e.name e.dom e.path e.value e.pe e.exp e.cre e.acc = true := fun h1 => by
    rw [if_neg (by rw [h1]; decide), if_pos h1] at h5
    exact h5
  refine ⟨h1, h2, h4.1, hk, fun h1 => ?_, fun h1 => ?_, ovG_mem h4.2⟩
  · have := hi h1
    unfold itemB canonB at this
    simp only [Bool.and_eq_true, decide_eq_true_eq] at this
    exact ⟨this.1.1.1.1.1.1.1.1.2, this.1.1.1.2.1, this.1.2, this.1.1.1.1.1.2⟩
  · have := hi h1
    unfold itemB timesB at this
    simp only [Bool.and_eq_true, decide_eq_true_eq] at this
    have t := this.2
    exact ⟨t.1.1.1.1.1.1, t.1.1.1.1.1.2, t.1.1.1.1.2, t.1.1.1.2, t.1.1.2, t.1.2⟩
theorem EvOk.short {e : Ed} (h : EvOk e) (hz : e.kind ≠ 1 → e.name = [] ∧ e.dom = [] ∧ e.path = [] ∧ e.value = []) : short e := by
  have := h.over
  by_cases h1 : e.kind = 1
  · have := h.lens h1
    unfold Go.Proofs.YtpakmeegldgjmaaGreat.short
    omega
  · obtain ⟨a, b, c, d⟩ := hz h1
    unfold Go.Proofs.YtpakmeegldgjmaaGreat.short
    rw [a, b, c, d]
    simp
    omega
theorem ev_short {e : Ed} (h : evB e = true) : short e := (ev_ok h).short fun h1 => by
  unfold evB at h
  simp only [Bool.and_eq_true] at h
  have h5 := h.2
  rcases (ev_ok (by unfold evB; simp only [Bool.and_eq_true]; exact h)).kind with hk | hk
  · exact absurd hk h1
  · rw [if_pos hk, Bool.and_eq_true] at h5
    have hz := h5.1
    unfold zeroB at hz
    simp only [Bool.and_eq_true, decide_eq_true_eq] at hz
    exact ⟨hz.1.1.1.1.1.1.1.1.1.1, hz.1.1.1.1.1.1.1.1.1.2, hz.1.1.1.1.1.1.1.1.2, hz.1.1.1.1.1.1.1.2⟩
/-- An event's flags. -/
def evF (e : Ed) : List Bool := [decide (e.kind = 1), e.ho, e.se, e.ht, e.pe]
theorem evP_eq (e : Ed) (l : List UInt8) : l ++ evP e = ((((l ++ dP e.dot) ++ stP e.st.1 e.st.2.1 e.st.2.2) ++ [flB (evF e)]) ++ vput e.over.length) ++ dsP e.over ++ (if e.kind = 1 then itP e else []) := by
  unfold evP evF
  simp [List.append_assoc]
theorem itP_eq (e : Ed) (l : List UInt8) (c a : Nat) (hc : e.cre = c) (ha : e.acc = a) : l ++ itP e = ((((((l ++ (vput (bs e.name).size ++ sb (bs e.name))) ++ (vput (bs e.dom).size ++ sb (bs e.dom))) ++ (vput (bs e.path).size ++ sb (bs e.path))) ++ (vput (bs e.value).size ++ sb (bs e.value))) ++ vput (foldI e.exp).toNat) ++ vput c) ++ vput a := by
  unfold itP txP
  rw [hc, ha]
  have e1 : ∀ x : List UInt8, sb (bs x) = x := fun _ => rfl
  simp [List.append_assoc, bs_size, e1]
theorem EV.alls {N E c : Nat} {w W : World} {e : Ed} {A : Option Addr} (h : EV N w E e A c W) : W.cell? ⟨E, 0, none⟩ = some (.int .i64 e.dot.1.1) ∧ W.cell? ⟨E, 1, none⟩ = some (.int .i64 e.dot.1.2) ∧ W.cell? ⟨E, 2, none⟩ = some (.int .i64 e.dot.2) ∧ W.cell? ⟨E, 3, none⟩ = some (.int .i64 e.st.1) ∧ W.cell? ⟨E, 4, none⟩ = some (.int .i64 e.st.2.1) ∧ W.cell? ⟨E, 5, none⟩ = some (.int .i64 e.st.2.2) ∧ W.cell? ⟨E, 6, none⟩ = some (.int .i64 e.kind) ∧ W.cell? ⟨E, 7, none⟩ = some (.string (bs e.name)) ∧ W.cell? ⟨E, 8, none⟩ = some (.string (bs e.dom)) ∧ W.cell? ⟨E, 9, none⟩ = some (.string (bs e.path)) ∧ W.cell? ⟨E, 10, none⟩ = some (.string (bs e.value)) ∧ W.cell? ⟨E, 11, none⟩ = some (.bool e.ho) ∧ W.cell? ⟨E, 12, none⟩ = some (.bool e.se) ∧ W.cell? ⟨E, 13, none⟩ = some (.bool e.ht) ∧ W.cell? ⟨E, 14, none⟩ = some (.bool e.pe) ∧ W.cell? ⟨E, 15, none⟩ = some (.int .i64 e.exp) ∧ W.cell? ⟨E, 16, none⟩ = some (.int .i64 e.cre) ∧ W.cell? ⟨E, 17, none⟩ = some (.int .i64 e.acc) ∧ W.cell? ⟨E, 18, none⟩ = some (.slice A e.over.length c) := by
  refine ⟨?_, ?_, ?_, ?_, ?_, ?_, ?_, ?_, ?_, ?_, ?_, ?_, ?_, ?_, ?_, ?_, ?_, ?_, ?_⟩
  all_goals (rw [h.1.cell]; rfl)
theorem stP_len (d i s : Int) : (stP d i s).length ≤ 30 := by
  unfold stP
  split
  · rename_i h
    simp [stB, inB] at h
    have h1 := vput_le (x := d.toNat) (by omega)
    have h2 := vput_le (x := i.toNat) (by omega)
    have h3 := vput_le (x := s.toNat) (by omega)
    simp only [List.length_append]
    omega
  · simp
set_option maxHeartbeats 8000000 in
theorem evput_any (e : Ed) (Ao : Option Addr) (co : Nat) (w : World) (base b : Nat) (A : Option Addr) (c : Nat) (l : List UInt8) (h : Wr w base b A c l) (hbase : base ≤ w.heap.size) (hl : l.length ≤ 400000) (ho : Ds w base Ao e.over) (hq : evB e = true) :
    Calls Tryz.prog 23 #[.pointer (some ⟨b, 0, none⟩), evV e Ao co] w (WEnd0 w base b A (l ++ evP e)) := by
  have hs := ev_short hq
  have ok := ev_ok hq
  have HE := Lib.hid (ev_new w e Ao co (ho.more hbase))
  have CR := Lib.hid (fun (W : World) (hm : MsAt W Ao e.over) => evright_any e Ao co W hm hs)
  rw [hq] at CR
  have CD := Lib.hid (fun (x : Dt) (W : World) (A : Option Addr) (c : Nat) (l : List UInt8) (h : Wr W base b A c l) (hb : base ≤ W.heap.size) (hl : l.length ≤ 900000) => dput_any x.1.1 x.1.2 x.2 W base b A c l h hb hl)
  have CS := Lib.hid (fun (W : World) (A : Option Addr) (c : Nat) (l : List UInt8) (h : Wr W base b A c l) (hb : base ≤ W.heap.size) (hl : l.length ≤ 900000) => cput_any e.st.1 e.st.2.1 e.st.2.2 W base b A c l h hb hl)
  have CF := Lib.hid (fun (W : World) (A : Option Addr) (c : Nat) (l : List UInt8) (FA : Option Addr) (fc B : Nat) (h : Wr W base b A c l) (hb : base ≤ W.heap.size) (hl : l.length ≤ 1000000) (hr : Rd W B 1 FA 5 (tv (evF e))) => wflags_any W base b A c l FA 5 fc B (evF e) h hb hl hr (by omega))
  have CN := Lib.hid (fun (x : Nat) (hx : x < 18446744073709551616) (W : World) (A : Option Addr) (c : Nat) (l : List UInt8) (h : Wr W base b A c l) (hb : base ≤ W.heap.size) (hl : l.length ≤ 1000000) => wnum_any W base b A c l x h hb hl hx)
  have h0 := HE.out.1.lt
  have hbE : w.heap.size ≠ b := by have := h.2.1.lt; omega
  have hAE : bl A ≠ some w.heap.size := fun e => by have := (h.2.2.block_lt _ (by rw [ownBlock_bl]; exact e)).2; omega
  have hW0 := h.below ((Below.refl w.heap.size w).alloc (Nat.le_refl _) (.cells (evA e Ao co) 59))
  have hst0 : WStep w (w.alloc (.cells (evA e Ao co) 59)) b A A := (WStep.refl w b A).below ((Below.refl _ _).alloc (Nat.le_refl _) _)
  have hov0 := Ds.below ho (below_of_le ((Below.refl w.heap.size w).alloc (Nat.le_refl _) (.cells (evA e Ao co) 59)) hbase)
  have hbs0 : base ≤ (w.alloc (.cells (evA e Ao co) 59)).heap.size := by simp; omega
  have hbl : bl A ≠ none → True := fun _ => trivial
  have hAlt : ∀ k, bl A = some k → k < w.heap.size := fun k hk => (h.2.2.block_lt k (by rw [ownBlock_bl]; exact hk)).2
  have hblt : b < w.heap.size := h.2.1.lt
  unfold evA at HE hW0 hst0 hov0 hbs0
  unfold evV at CR ⊢
  generalize hLL : l ++ evP e = LL at *
  have HLL := Lib.hid hLL.symm
  clear hLL h0 h
  go_enter Tryz.func23, Tryz.ntmps23
  go_wp2_with (refine ld_event (by rfl) _ rfl rfl HE.out ?_)
  generalize w.alloc (.cells #[.int .i64 e.dot.1.1, .int .i64 e.dot.1.2, .int .i64 e.dot.2, .int .i64 e.st.1, .int .i64 e.st.2.1, .int .i64 e.st.2.2, .int .i64 e.kind, .string (bs e.name), .string (bs e.dom), .string (bs e.path), .string (bs e.value), .bool e.ho, .bool e.se, .bool e.ht, .bool e.pe, .int .i64 e.exp, .int .i64 e.cre, .int .i64 e.acc, .slice Ao e.over.length co] 59) = W0 at *
  refine (CR.out W0 (HE.out.2.1.more HE.out.2.2.2)).mono ?_; rintro r w1 ⟨rfl, b1⟩
  have hE1 := HE.out.step b1
  have hW1 := hW0.below b1
  have hst1 := hst0.below b1
  have hov1 := Ds.below hov0 (below_of_le b1 hbs0)
  have hbs1 := Nat.le_trans hbs0 b1.size
  have H1 := Lib.hid (And.intro hE1 (And.intro hW1 (And.intro hst1 (And.intro hov1 hbs1))))
  clear HE CR hW0 hst0 hov0 hbs0 b1 hE1 hW1 hst1 hov1 hbs1 ho
  obtain ⟨m0, m1, m2, m3, m4, m5, m6, m7, m8, m9, m10, m11, m12, m13, m14, m15, m16, m17, m18⟩ := H1.out.1.alls
  have hP2 : PS w base b A w.heap.size w1.heap.size e Ao co (w1.alloc (.cells (cookC e) 56)) A c l := by
    have hlt := H1.out.1.1.lt
    have bb := (Below.refl w1.heap.size w1).alloc (Nat.le_refl _) (.cells (cookC e) 56)
    exact ⟨H1.out.2.1.below bb, H1.out.1.1.alloc _, Whole.new _ _ _, hbE, by omega, hAE, fun e => by have := hAlt _ e; omega, Ds.below H1.out.2.2.2.1 (below_of_le bb H1.out.2.2.2.2), H1.out.2.2.1.below bb, by simp; have := H1.out.2.2.2.2; omega⟩
  unfold cookC at hP2
  have P2 := Lib.hid hP2
  clear hP2 hbE hAE hAlt hblt hbl
  go_upto_region 3 with fail
  clear H1 m0 m1 m2 m3 m4 m5 m6 m7 m8 m9 m10 m11 m12 m13 m14 m15 m16 m17 m18
  generalize w1.alloc (.cells #[.string (bs e.value), .bool e.ho, .bool e.se, .bool e.ht, .bool e.pe, .int .i64 e.exp, .int .i64 e.cre, .int .i64 e.acc] 56) = W2 at *
  generalize w1.heap.size = C at *
  generalize w.heap.size = E at *
  have l1 := dP_len e.dot
  have l2 := Lib.hid (vput_le (x := e.over.length) (by have := ok.over; omega))
  have hd0 := CD.out e.dot
  unfold dotV at hd0
  have CD0 := Lib.hid hd0
  have hs0 := CS.out
  unfold stV at hs0
  have CS0 := Lib.hid hs0
  clear hd0 hs0 CS
  obtain ⟨y0y, y1y, y2y, y3y, y4y, y5y, y6y, y7y, y8y, y9y, y18y, z0, z1, z2, z3, z4, z5, z6, z7⟩ := P2.out.cells
  go_wp2_with fail
  refine (CD0.out W2 A c l P2.out.wr P2.out.sz (by omega)).mono ?_; rintro r w3 ⟨A3, c3, rfl, hw3, st3⟩
  have P3 := Lib.hid (P2.out.step hw3 st3)
  clear hw3 st3 P2
  clear y0y y1y y2y y3y y4y y5y y6y y7y y8y y9y y18y z0 z1 z2 z3 z4 z5 z6 z7
  obtain ⟨y0y, y1y, y2y, y3y, y4y, y5y, y6y, y7y, y8y, y9y, y18y, z0, z1, z2, z3, z4, z5, z6, z7⟩ := P3.out.cells
  have len3 := Lib.hid (show (l ++ dotP e.dot.1.1 e.dot.1.2 e.dot.2).length ≤ 400100 by have : (dotP e.dot.1.1 e.dot.1.2 e.dot.2).length ≤ 30 := l1; simp; omega)
  go_wp2_with fail
  refine (CS0.out w3 A3 c3 _ P3.out.wr P3.out.sz (by have := len3.out; omega)).mono ?_; rintro r w4 ⟨A4, c4, rfl, hw4, st4⟩
  have P4 := Lib.hid (P3.out.step hw4 st4)
  clear hw4 st4 P3
  clear y0y y1y y2y y3y y4y y5y y6y y7y y8y y9y y18y z0 z1 z2 z3 z4 z5 z6 z7
  have len4 := Lib.hid (show ((l ++ dotP e.dot.1.1 e.dot.1.2 e.dot.2) ++ stP e.st.1 e.st.2.1 e.st.2.2).length ≤ 400200 by have := stP_len e.st.1 e.st.2.1 e.st.2.2; have := len3.out; rw [List.length_append]; omega)
  have HL4 := Lib.hid (show (l ++ dotP e.dot.1.1 e.dot.1.2 e.dot.2) ++ stP e.st.1 e.st.2.1 e.st.2.2 = (l ++ dP e.dot) ++ stP e.st.1 e.st.2.1 e.st.2.2 from rfl)
  generalize ((l ++ dotP e.dot.1.1 e.dot.1.2 e.dot.2) ++ stP e.st.1 e.st.2.1 e.st.2.2) = L4 at *
  have bb4 := (Below.refl w4.heap.size w4).alloc (Nat.le_refl _) (.cells #[.bool (e.kind == 1), .bool e.ho, .bool e.se, .bool e.ht, .bool e.pe] 4)
  have P4b := Lib.hid (P4.out.low bb4)
  have hfe : (decide (e.kind = 1)) = (e.kind == 1) := by rw [Bool.eq_iff_iff]; simp
  have hr4 : Rd (w4.alloc (.cells #[.bool (e.kind == 1), .bool e.ho, .bool e.se, .bool e.ht, .bool e.pe] 4)) (w4.heap.size + 1) 1 (some ⟨w4.heap.size, 0, none⟩) 5 (tv (evF e)) := by
    have := Rd.fresh w4 #[.bool (e.kind == 1), .bool e.ho, .bool e.se, .bool e.ht, .bool e.pe] 4 5 rfl
    unfold evF
    rw [hfe]
    exact this
  have HR4 := Lib.hid hr4
  clear hr4 bb4 hfe
  obtain ⟨y0y, y1y, y2y, y3y, y4y, y5y, y6y, y7y, y8y, y9y, y18y, z0, z1, z2, z3, z4, z5, z6, z7⟩ := P4.out.cells
  go_wp2_with fail
  clear y0y y1y y2y y3y y4y y5y y6y y7y y8y y9y y18y z0 z1 z2 z3 z4 z5 z6 z7
  refine (CF.out _ A4 c4 _ _ _ _ P4b.out.wr P4b.out.sz (by have := len4.out; omega) HR4.out).mono ?_; rintro r w5 ⟨A5, c5, rfl, hw5, st5⟩
  have P5 := Lib.hid (P4b.out.step hw5 st5)
  clear hw5 st5 P4 P4b HR4 CF
  obtain ⟨y0y, y1y, y2y, y3y, y4y, y5y, y6y, y7y, y8y, y9y, y18y, z0, z1, z2, z3, z4, z5, z6, z7⟩ := P5.out.cells
  have len5 := Lib.hid (show (L4 ++ [flB (evF e)]).length ≤ 400201 by have := len4.out; simp; omega)
  have y5 : IntKind.u64.wrap (e.over.length : Int) = (e.over.length : Int) := by rw [IntKind.wrap_u64]; have := ok.over; omega
  go_wp2_with fail
  refine (CN.out e.over.length (by have := ok.over; omega) w5 A5 c5 _ P5.out.wr P5.out.sz (by have := len5.out; omega)).mono ?_; rintro r w6 ⟨A6, c6', rfl, hw6, st6⟩
  have P6 := Lib.hid (P5.out.step hw6 st6)
  clear hw6 st6 P5
  clear y0y y1y y2y y3y y4y y5y y6y y7y y8y y9y y18y z0 z1 z2 z3 z4 z5 z6 z7
  obtain ⟨y0y, y1y, y2y, y3y, y4y, y5y, y6y, y7y, y8y, y9y, y18y, z0, z1, z2, z3, z4, z5, z6, z7⟩ := P6.out.cells
  have len6 := Lib.hid (show ((L4 ++ [flB (evF e)]) ++ vput e.over.length).length ≤ 400300 by have := len5.out; have := l2.out; rw [List.length_append]; omega)
  have HL6 := Lib.hid (show (L4 ++ [flB (evF e)]) ++ vput e.over.length = (((l ++ dP e.dot) ++ stP e.st.1 e.st.2.1 e.st.2.2) ++ [flB (evF e)]) ++ vput e.over.length by rw [HL4.out])
  generalize (L4 ++ [flB (evF e)]) ++ vput e.over.length = L6 at *
  have hn64 := ok.over
  generalize hlen : e.over.length = n at *
  have HLn := Lib.hid hlen
  clear hlen
  go_wp2
  clear y0y y1y y2y y3y y4y y5y y6y y7y y8y y9y y18y z0 z1 z2 z3 z4 z5 z6 z7
  go_loopw [43] (fun i wr => ∃ (j : Nat) (A7 : Option Addr) (c7 : Nat), j ≤ n ∧ i = .int .i64 j ∧ PS w base b A E C e Ao co wr A7 c7 (L6 ++ dsP (e.over.take j))) (fun i _ => n - (intOf i).toNat)
  case atStart => exact ⟨0, A6, c6', by omega, rfl, by simpa [dsP] using P6.out⟩
  case round =>
    obtain ⟨j, A7, c7', hj, rfl, hP⟩ := hrel
    have P7 := Lib.hid hP
    clear hP P6
    have len7 := Lib.hid (show (L6 ++ dsP (e.over.take j)).length ≤ 403000 by
      have h1 := dsP_len (e.over.take j)
      have h2 := List.length_take_le j e.over
      have := len6.out
      rw [List.length_append]
      omega)
    by_cases hlt : j < n
    · obtain ⟨x, hx⟩ : ∃ x, e.over[j]? = some x := ⟨e.over[j]'(by have := HLn.out; omega), List.getElem?_eq_getElem _⟩
      obtain ⟨b0, o0, hA, hbN, g0, g1, g2⟩ := Ds.at_ P7.out.ov hx
      subst hA
      have HX := Lib.hid (show (L6 ++ dsP (e.over.take j)) ++ dP x = L6 ++ dsP (e.over.take (j + 1)) by rw [dsP_step hx, List.append_assoc])
      have CX0 := CD.out x
      unfold dotV at CX0
      have CX := Lib.hid CX0
      clear CX0 hx
      obtain ⟨⟨x1, x2⟩, x3⟩ := x
      simp only at g0 g1 g2
      have bb := (Below.refl wr.heap.size wr).alloc (Nat.le_refl _) (.cells #[.int .i64 x1, .int .i64 x2, .int .i64 x3] 50)
      have P7b := Lib.hid (P7.out.low bb)
      clear bb
      go_wp2_with fail
      refine (CX.out _ A7 c7' _ P7b.out.wr P7b.out.sz (by have := len7.out; omega)).mono ?_; rintro r w8 ⟨A8, c8, rfl, hw8, st8⟩
      have P8 := Lib.hid (P7b.out.step hw8 st8)
      clear hw8 st8
      go_wp2
      go_roundw
      case rel => exact ⟨j + 1, A8, c8, by omega, by go_num, by rw [← HX.out]; exact P8.out⟩
      case measure => simp [intOf]; omega
    · have hj' : j = n := by omega
      have HL7 := Lib.hid (show L6 ++ dsP (e.over.take j) = L6 ++ dsP e.over by rw [List.take_of_length_le (by have := HLn.out; omega)])
      have HLQ := Lib.hid (show LL = (L6 ++ dsP e.over) ++ (if e.kind = 1 then itP e else []) by rw [HLL.out, evP_eq, HL6.out, HLn.out])
      rw [HL7.out] at P7 len7
      clear hj hlt CD CD0 CS0 HL7
      generalize L6 ++ dsP e.over = L7 at *
      obtain ⟨y0y, y1y, y2y, y3y, y4y, y5y, y6y, y7y, y8y, y9y, y18y, z0, z1, z2, z3, z4, z5, z6, z7⟩ := P7.out.cells
      by_cases hk1 : e.kind = 1
      · have t1 : (e.kind == 1) = true := by rw [beq_iff_eq]; exact hk1
        have lens := Lib.hid (ok.lens hk1)
        have tms := Lib.hid (ok.times hk1)
        have HLR := Lib.hid (show LL = L7 ++ itP e by rw [HLQ.out, if_pos hk1])
        clear hk1
        obtain ⟨cn, hcn⟩ := Int.eq_ofNat_of_zero_le tms.out.2.2.1
        obtain ⟨an, han⟩ := Int.eq_ofNat_of_zero_le tms.out.2.2.2.2.1
        have HLS := Lib.hid (HLR.out.trans (itP_eq e L7 cn an hcn han))
        have CT := Lib.hid (fun (t : List UInt8) (ht : t.length ≤ 1024) (W : World) (A : Option Addr) (c : Nat) (l : List UInt8) (h : Wr W base b A c l) (hb : base ≤ W.heap.size) (hl : l.length ≤ 1000000) => wtext_any W base b A c l (bs t) h hb hl (by rw [bs_size]; omega))
        have CI := Lib.hid (fun (W : World) (A : Option Addr) (c : Nat) (l : List UInt8) (h : Wr W base b A c l) (hb : base ≤ W.heap.size) (hl : l.length ≤ 1000000) => wint_any W base b A c l e.exp h hb hl (by have := tms.out; omega) (by have := tms.out; omega))
        have u1 := Lib.hid (txP_len e.name (by have := lens.out; omega))
        have u2 := Lib.hid (txP_len e.dom (by have := lens.out; omega))
        have u3 := Lib.hid (txP_len e.path (by have := lens.out; omega))
        have u4 := Lib.hid (txP_len e.value (by have := lens.out; omega))
        have u5 := Lib.hid (vput_le (x := (foldI e.exp).toNat) (by have := foldI_lt e.exp (by have := tms.out; omega) (by have := tms.out; omega); have := foldI_nn e.exp; omega))
        have u6 := Lib.hid (vput_le (x := cn) (by have := tms.out; omega))
        have P7d := Lib.hid (P7.out.low (Below.refl _ _).drew)
        have n1 := Lib.hid (show (L7 ++ (vput (bs e.name).size ++ sb (bs e.name))).length ≤ 404000 by have h1 : (vput (bs e.name).size ++ sb (bs e.name)).length ≤ 10 + e.name.length := u1.out; have := len7.out; have := lens.out; rw [List.length_append]; omega)
        have n2 := Lib.hid (show ((L7 ++ (vput (bs e.name).size ++ sb (bs e.name))) ++ (vput (bs e.dom).size ++ sb (bs e.dom))).length ≤ 405000 by have h1 : (vput (bs e.dom).size ++ sb (bs e.dom)).length ≤ 10 + e.dom.length := u2.out; have := n1.out; have := lens.out; rw [List.length_append]; omega)
        have n3 := Lib.hid (show (((L7 ++ (vput (bs e.name).size ++ sb (bs e.name))) ++ (vput (bs e.dom).size ++ sb (bs e.dom))) ++ (vput (bs e.path).size ++ sb (bs e.path))).length ≤ 406000 by have h1 : (vput (bs e.path).size ++ sb (bs e.path)).length ≤ 10 + e.path.length := u3.out; have := n2.out; have := lens.out; rw [List.length_append]; omega)
        have n4 := Lib.hid (show ((((L7 ++ (vput (bs e.name).size ++ sb (bs e.name))) ++ (vput (bs e.dom).size ++ sb (bs e.dom))) ++ (vput (bs e.path).size ++ sb (bs e.path))) ++ (vput (bs e.value).size ++ sb (bs e.value))).length ≤ 408000 by have h1 : (vput (bs e.value).size ++ sb (bs e.value)).length ≤ 10 + e.value.length := u4.out; have := n3.out; have := lens.out; rw [List.length_append]; omega)
        clear u1 u2 u3 u4
        generalize hM1 : L7 ++ (vput (bs e.name).size ++ sb (bs e.name)) = M1 at *
        generalize hM2 : M1 ++ (vput (bs e.dom).size ++ sb (bs e.dom)) = M2 at *
        generalize hM3 : M2 ++ (vput (bs e.path).size ++ sb (bs e.path)) = M3 at *
        generalize hM4 : M3 ++ (vput (bs e.value).size ++ sb (bs e.value)) = M4 at *
        have CT1 := CT.out e.name (by have := lens.out; omega) wr.drew A7 c7' L7 P7d.out.wr P7d.out.sz (by have := len7.out; omega)
        rw [hM1] at CT1
        have CT1 := Lib.hid CT1
        have CT2 := fun W A c h hb => CT.out e.dom (by have := lens.out; omega) W A c M1 h hb (by have := n1.out; omega)
        rw [hM2] at CT2
        have CT2 := Lib.hid CT2
        have CT3 := fun W A c h hb => CT.out e.path (by have := lens.out; omega) W A c M2 h hb (by have := n2.out; omega)
        rw [hM3] at CT3
        have CT3 := Lib.hid CT3
        have CT4 := fun W A c h hb => CT.out e.value (by have := lens.out; omega) W A c M3 h hb (by have := n3.out; omega)
        rw [hM4] at CT4
        have CT4 := Lib.hid CT4
        clear hM1 hM2 hM3 hM4 CT
        have n5 := Lib.hid (show (M4 ++ vput (foldI e.exp).toNat).length ≤ 409000 by have := n4.out; have := u5.out; rw [List.length_append]; omega)
        have n6 := Lib.hid (show ((M4 ++ vput (foldI e.exp).toNat) ++ vput cn).length ≤ 410000 by have := n5.out; have := u6.out; rw [List.length_append]; omega)
        go_upto_region 13 with fail
        refine wp_region_held_drew (S := (fun W => W.cell? ⟨E, 7, none⟩ = some (.string (bs e.name)) ∧ W.cell? ⟨E, 8, none⟩ = some (.string (bs e.dom)) ∧ W.cell? ⟨E, 9, none⟩ = some (.string (bs e.path)) ∧ W.cell? ⟨C, 0, none⟩ = some (.string (bs e.value)))) (by kernel_rfl) ?_ (fun hHeld => ?_)
        · (try dsimp only); exact P7.out.strs
        refine wpAnyH_take (i := 0) (v := ?_) rfl (by kernel_rfl) (by kernel_rfl) (by kernel_rfl) (fun _ _ _ h => h) (Or.inl ⟨by rfl, ?_⟩) (by assumption) ?_
        rotate_left
        first | (focus ((intro w hSw; (try dsimp only at hSw); go_simp); (try with_reducible rfl); done)) | fail
        try simp only [Act.put, List.getElem_toArray, List.getElem_cons_zero, List.setIfInBounds_toArray, List.set_cons_zero, List.set_cons_succ]
        refine wpAnyH_take (i := 1) (v := ?_) rfl (by kernel_rfl) (by kernel_rfl) (by kernel_rfl) (fun _ _ _ h => h) (Or.inl ⟨by rfl, ?_⟩) (by assumption) ?_
        rotate_left
        first | (focus ((intro w hSw; (try dsimp only at hSw); go_simp); (try with_reducible rfl); done)) | fail
        try simp only [Act.put, List.getElem_toArray, List.getElem_cons_zero, List.getElem_cons_succ, List.setIfInBounds_toArray, List.set_cons_zero, List.set_cons_succ]
        refine wpAnyH_take (i := 2) (v := ?_) rfl (by kernel_rfl) (by kernel_rfl) (by kernel_rfl) (fun _ _ _ h => h) (Or.inl ⟨by rfl, ?_⟩) (by assumption) ?_
        rotate_left
        first | (focus ((intro w hSw; (try dsimp only at hSw); go_simp); (try with_reducible rfl); done)) | fail
        try simp only [Act.put, List.getElem_toArray, List.getElem_cons_zero, List.getElem_cons_succ, List.setIfInBounds_toArray, List.set_cons_zero, List.set_cons_succ]
        refine wpAnyH_take (i := 3) (v := ?_) rfl (by kernel_rfl) (by kernel_rfl) (by kernel_rfl) (fun _ _ _ h => h) (Or.inl ⟨by rfl, ?_⟩) (by assumption) ?_
        rotate_left
        first | (focus ((intro w hSw; (try dsimp only at hSw); go_simp); (try with_reducible rfl); done)) | fail
        try simp only [Act.put, List.getElem_toArray, List.getElem_cons_zero, List.getElem_cons_succ, List.setIfInBounds_toArray, List.set_cons_zero, List.set_cons_succ]
        refine wpAnyH_take (i := 5) (v := ?_) rfl (by kernel_rfl) (by kernel_rfl) (by kernel_rfl) (fun _ _ _ h => h) (Or.inl ⟨by rfl, ?_⟩) (by assumption) ?_
        rotate_left
        first | (focus ((intro w hSw; (try dsimp only at hSw); go_simp); (try with_reducible rfl); done)) | fail
        try simp only [Act.put, List.getElem_toArray, List.getElem_cons_zero, List.getElem_cons_succ, List.setIfInBounds_toArray, List.set_cons_zero, List.set_cons_succ]
        refine wpAnyH_take (i := 6) (v := ?_) rfl (by kernel_rfl) (by kernel_rfl) (by kernel_rfl) (fun _ _ _ h => h) (Or.inl ⟨by rfl, ?_⟩) (by assumption) ?_
        rotate_left
        first | (focus ((intro w hSw; (try dsimp only at hSw); go_simp); (try with_reducible rfl); done)) | fail
        try simp only [Act.put, List.getElem_toArray, List.getElem_cons_zero, List.getElem_cons_succ, List.setIfInBounds_toArray, List.set_cons_zero, List.set_cons_succ]
        refine wpAnyH_take (i := 7) (v := ?_) rfl (by kernel_rfl) (by kernel_rfl) (by kernel_rfl) (fun _ _ _ h => h) (Or.inl ⟨by rfl, ?_⟩) (by assumption) ?_
        rotate_left
        first | (focus ((intro w hSw; (try dsimp only at hSw); go_simp); (try with_reducible rfl); done)) | fail
        try simp only [Act.put, List.getElem_toArray, List.getElem_cons_zero, List.getElem_cons_succ, List.setIfInBounds_toArray, List.set_cons_zero, List.set_cons_succ]
        refine wpAnyH_take (i := 9) (v := ?_) rfl (by kernel_rfl) (by kernel_rfl) (by kernel_rfl) (fun _ _ _ h => h) (Or.inl ⟨by rfl, ?_⟩) (by assumption) ?_
        rotate_left
        first | (focus ((intro w hSw; (try dsimp only at hSw); go_simp); (try with_reducible rfl); done)) | fail
        try simp only [Act.put, List.getElem_toArray, List.getElem_cons_zero, List.getElem_cons_succ, List.setIfInBounds_toArray, List.set_cons_zero, List.set_cons_succ]
        refine wpAnyH_take (i := 10) (v := ?_) rfl (by kernel_rfl) (by kernel_rfl) (by kernel_rfl) (fun _ _ _ h => h) (Or.inl ⟨by rfl, ?_⟩) (by assumption) ?_
        rotate_left
        first | (focus ((intro w hSw; (try dsimp only at hSw); go_simp); (try with_reducible rfl); done)) | fail
        try simp only [Act.put, List.getElem_toArray, List.getElem_cons_zero, List.getElem_cons_succ, List.setIfInBounds_toArray, List.set_cons_zero, List.set_cons_succ]
        refine wpAnyH_take (i := 11) (v := ?_) rfl (by kernel_rfl) (by kernel_rfl) (by kernel_rfl) (fun _ _ _ h => h) (Or.inl ⟨by rfl, ?_⟩) (by assumption) ?_
        rotate_left
        first | (focus ((intro w hSw; (try dsimp only at hSw); go_simp); (try with_reducible rfl); done)) | fail
        try simp only [Act.put, List.getElem_toArray, List.getElem_cons_zero, List.getElem_cons_succ, List.setIfInBounds_toArray, List.set_cons_zero, List.set_cons_succ]
        refine wpAnyH_take (i := 13) (v := ?_) rfl (by kernel_rfl) (by kernel_rfl) (by kernel_rfl) (fun _ _ _ h => h) (Or.inl ⟨by rfl, ?_⟩) (by assumption) ?_
        rotate_left
        first | (focus ((intro w hSw; (try dsimp only at hSw); go_simp); (try with_reducible rfl); done)) | fail
        try simp only [Act.put, List.getElem_toArray, List.getElem_cons_zero, List.getElem_cons_succ, List.setIfInBounds_toArray, List.set_cons_zero, List.set_cons_succ]
        refine wpAnyH_take (i := 14) (v := ?_) rfl (by kernel_rfl) (by kernel_rfl) (by kernel_rfl) (fun _ _ _ h => h) (Or.inl ⟨by rfl, ?_⟩) (by assumption) ?_
        rotate_left
        first | (focus ((intro w hSw; (try dsimp only at hSw); go_simp); (try with_reducible rfl); done)) | fail
        try simp only [Act.put, List.getElem_toArray, List.getElem_cons_zero, List.getElem_cons_succ, List.setIfInBounds_toArray, List.set_cons_zero, List.set_cons_succ]
        refine wpAnyH_ready (rs := [4]) (by kernel_rfl) (by simp) ?_
        refine AllReadyH.cons rfl (fun K hK => ?_) AllReadyH.nil
        go_simp
        refine (CT1.out).mono ?_; rintro r w8 ⟨A8, c8, rfl, hw8, st8⟩; have P8 := Lib.hid (P7d.out.step hw8 st8); clear hw8 st8
        go_wp2_with fail
        refine hK.out _ _ ?_ (fun hHeld => ?_)
        · (try dsimp only); exact P8.out.strs
        clear hK K
        try simp only [Act.put, List.getElem_toArray, List.getElem_cons_zero, List.getElem_cons_succ, List.setIfInBounds_toArray, List.set_cons_zero, List.set_cons_succ]
        refine wpAnyH_ready (rs := [8]) (by kernel_rfl) (by simp) ?_
        refine AllReadyH.cons rfl (fun K hK => ?_) AllReadyH.nil
        go_simp
        refine (CT2.out w8 A8 c8 P8.out.wr P8.out.sz).mono ?_; rintro r w9 ⟨A9, c9, rfl, hw9, st9⟩; have P9 := Lib.hid (P8.out.step hw9 st9); clear hw9 st9
        go_wp2_with fail
        refine hK.out _ _ ?_ (fun hHeld => ?_)
        · (try dsimp only); exact P9.out.strs
        clear hK K
        try simp only [Act.put, List.getElem_toArray, List.getElem_cons_zero, List.getElem_cons_succ, List.setIfInBounds_toArray, List.set_cons_zero, List.set_cons_succ]
        refine wpAnyH_ready (rs := [12]) (by kernel_rfl) (by simp) ?_
        refine AllReadyH.cons rfl (fun K hK => ?_) AllReadyH.nil
        go_simp
        refine (CT3.out w9 A9 c9 P9.out.wr P9.out.sz).mono ?_; rintro r wa ⟨Aa, ca, rfl, hwa, sta⟩; have Pa := Lib.hid (P9.out.step hwa sta); clear hwa sta
        go_wp2_with fail
        refine hK.out _ _ ?_ (fun hHeld => ?_)
        · (try dsimp only); exact Pa.out.strs
        clear hK K
        try simp only [Act.put, List.getElem_toArray, List.getElem_cons_zero, List.getElem_cons_succ, List.setIfInBounds_toArray, List.set_cons_zero, List.set_cons_succ]
        refine wpAnyH_ready (rs := [15]) (by kernel_rfl) (by simp) ?_
        refine AllReadyH.cons rfl (fun K hK => ?_) AllReadyH.nil
        go_simp
        refine (CT4.out wa Aa ca Pa.out.wr Pa.out.sz).mono ?_; rintro r wb ⟨Ab, cb, rfl, hwb, stb⟩; have Pb := Lib.hid (Pa.out.step hwb stb); clear hwb stb
        go_wp2_with fail
        refine hK.out _ _ ?_ (fun hHeld => ?_)
        · (try dsimp only); exact Pb.out.strs
        clear hK K
        try simp only [Act.put, List.getElem_toArray, List.getElem_cons_zero, List.getElem_cons_succ, List.setIfInBounds_toArray, List.set_cons_zero, List.set_cons_succ]
        refine wpAnyH_done (by kernel_rfl) ?_ _
        clear y0y y1y y2y y3y y4y y5y y6y y7y y8y y9y y18y z0 z1 z2 z3 z4 z5 z6 z7 P7 P7d P8 P9 Pa CT1 CT2 CT3 CT4
        have Pbd := Lib.hid (Pb.out.low (Below.refl _ _).drew)
        have y6 : IntKind.u64.wrap e.cre = (cn : Int) := by rw [hcn, IntKind.wrap_u64]; have := tms.out; omega
        have y7 : IntKind.u64.wrap e.acc = (an : Int) := by rw [han, IntKind.wrap_u64]; have := tms.out; omega
        have CI1 := Lib.hid (CI.out wb.drew Ab cb M4 Pbd.out.wr Pbd.out.sz (by have := n4.out; omega))
        have CN2 := Lib.hid (fun W A c h hb => CN.out cn (by have := tms.out; omega) W A c (M4 ++ vput (foldI e.exp).toNat) h hb (by have := n5.out; omega))
        have CN3 := Lib.hid (fun W A c h hb => CN.out an (by have := tms.out; omega) W A c ((M4 ++ vput (foldI e.exp).toNat) ++ vput cn) h hb (by have := n6.out; omega))
        clear CI CN hcn han
        go_upto_region 14 with fail
        refine wp_region_held_drew (S := (fun W => W.cell? ⟨C, 5, none⟩ = some (.int .i64 e.exp) ∧ W.cell? ⟨C, 6, none⟩ = some (.int .i64 e.cre) ∧ W.cell? ⟨C, 7, none⟩ = some (.int .i64 e.acc))) (by kernel_rfl) ?_ (fun hHeld => ?_)
        · (try dsimp only); exact Pb.out.nums
        refine wpAnyH_take (i := 0) (v := ?_) rfl (by kernel_rfl) (by kernel_rfl) (by kernel_rfl) (fun _ _ _ h => h) (Or.inl ⟨by rfl, ?_⟩) (by assumption) ?_
        rotate_left
        first | (focus ((intro w hSw; (try dsimp only at hSw); go_simp); (try with_reducible rfl); done)) | fail
        try simp only [Act.put, List.getElem_toArray, List.getElem_cons_zero, List.setIfInBounds_toArray, List.set_cons_zero, List.set_cons_succ]
        refine wpAnyH_take (i := 1) (v := ?_) rfl (by kernel_rfl) (by kernel_rfl) (by kernel_rfl) (fun _ _ _ h => h) (Or.inl ⟨by rfl, ?_⟩) (by assumption) ?_
        rotate_left
        first | (focus ((intro w hSw; (try dsimp only at hSw); go_simp); (try with_reducible rfl); done)) | fail
        try simp only [Act.put, List.getElem_toArray, List.getElem_cons_zero, List.getElem_cons_succ, List.setIfInBounds_toArray, List.set_cons_zero, List.set_cons_succ]
        refine wpAnyH_take (i := 2) (v := ?_) rfl (by kernel_rfl) (by kernel_rfl) (by kernel_rfl) (fun _ _ _ h => h) (Or.inl ⟨by rfl, ?_⟩) (by assumption) ?_
        rotate_left
        first | (focus ((intro w hSw; (try dsimp only at hSw); go_simp); (try with_reducible rfl); done)) | fail
        try simp only [Act.put, List.getElem_toArray, List.getElem_cons_zero, List.getElem_cons_succ, List.setIfInBounds_toArray, List.set_cons_zero, List.set_cons_succ]
        refine wpAnyH_take (i := 4) (v := ?_) rfl (by kernel_rfl) (by kernel_rfl) (by kernel_rfl) (fun _ _ _ h => h) (Or.inl ⟨by rfl, ?_⟩) (by assumption) ?_
        rotate_left
        first | (focus ((intro w hSw; (try dsimp only at hSw); go_simp); (try with_reducible rfl); done)) | fail
        try simp only [Act.put, List.getElem_toArray, List.getElem_cons_zero, List.getElem_cons_succ, List.setIfInBounds_toArray, List.set_cons_zero, List.set_cons_succ]
        refine wpAnyH_take (i := 5) (v := ?_) rfl (by kernel_rfl) (by kernel_rfl) (by kernel_rfl) (fun _ _ _ h => h) (Or.inl ⟨by rfl, ?_⟩) (by assumption) ?_
        rotate_left
        first | (focus ((intro w hSw; (try dsimp only at hSw); go_simp); (try with_reducible rfl); done)) | fail
        try simp only [Act.put, List.getElem_toArray, List.getElem_cons_zero, List.getElem_cons_succ, List.setIfInBounds_toArray, List.set_cons_zero, List.set_cons_succ]
        refine wpAnyH_take (i := 6) (v := ?_) rfl (by kernel_rfl) (by kernel_rfl) (by kernel_rfl) (fun _ _ _ h => h) (Or.inl ⟨by rfl, ?_⟩) (by assumption) ?_
        rotate_left
        first | (focus ((intro w hSw; (try dsimp only at hSw); go_simp); (try with_reducible rfl); done)) | fail
        try simp only [Act.put, List.getElem_toArray, List.getElem_cons_zero, List.getElem_cons_succ, List.setIfInBounds_toArray, List.set_cons_zero, List.set_cons_succ]
        refine wpAnyH_take (i := 8) (v := ?_) rfl (by kernel_rfl) (by kernel_rfl) (by kernel_rfl) (fun _ _ _ h => h) (Or.inl ⟨by rfl, ?_⟩) (by assumption) ?_
        rotate_left
        first | (focus ((intro w hSw; (try dsimp only at hSw); go_simp); (try with_reducible rfl); done)) | fail
        try simp only [Act.put, List.getElem_toArray, List.getElem_cons_zero, List.getElem_cons_succ, List.setIfInBounds_toArray, List.set_cons_zero, List.set_cons_succ]
        refine wpAnyH_take (i := 9) (v := ?_) rfl (by kernel_rfl) (by kernel_rfl) (by kernel_rfl) (fun _ _ _ h => h) (Or.inl ⟨by rfl, ?_⟩) (by assumption) ?_
        rotate_left
        first | (focus ((intro w hSw; (try dsimp only at hSw); go_simp); (try with_reducible rfl); done)) | fail
        try simp only [Act.put, List.getElem_toArray, List.getElem_cons_zero, List.getElem_cons_succ, List.setIfInBounds_toArray, List.set_cons_zero, List.set_cons_succ]
        refine wpAnyH_take (i := 10) (v := ?_) rfl (by kernel_rfl) (by kernel_rfl) (by kernel_rfl) (fun _ _ _ h => h) (Or.inl ⟨by rfl, ?_⟩) (by assumption) ?_
        rotate_left
        first | (focus ((intro w hSw; (try dsimp only at hSw); go_simp); (try with_reducible rfl); done)) | fail
        try simp only [Act.put, List.getElem_toArray, List.getElem_cons_zero, List.getElem_cons_succ, List.setIfInBounds_toArray, List.set_cons_zero, List.set_cons_succ]
        refine wpAnyH_ready (rs := [3]) (by kernel_rfl) (by simp) ?_
        refine AllReadyH.cons rfl (fun K hK => ?_) AllReadyH.nil
        go_simp
        refine (CI1.out).mono ?_; rintro r wc ⟨Ac, cc, rfl, hwc, stc⟩; have Pc := Lib.hid (Pbd.out.step hwc stc); clear hwc stc
        go_wp2_with fail
        refine hK.out _ _ ?_ (fun hHeld => ?_)
        · (try dsimp only); exact Pc.out.nums
        clear hK K
        try simp only [Act.put, List.getElem_toArray, List.getElem_cons_zero, List.getElem_cons_succ, List.setIfInBounds_toArray, List.set_cons_zero, List.set_cons_succ]
        refine wpAnyH_ready (rs := [7]) (by kernel_rfl) (by simp) ?_
        refine AllReadyH.cons rfl (fun K hK => ?_) AllReadyH.nil
        go_simp
        refine (CN2.out wc Ac cc Pc.out.wr Pc.out.sz).mono ?_; rintro r wd ⟨Ad, cd, rfl, hwd, std⟩; have Pd := Lib.hid (Pc.out.step hwd std); clear hwd std
        go_wp2_with fail
        refine hK.out _ _ ?_ (fun hHeld => ?_)
        · (try dsimp only); exact Pd.out.nums
        clear hK K
        try simp only [Act.put, List.getElem_toArray, List.getElem_cons_zero, List.getElem_cons_succ, List.setIfInBounds_toArray, List.set_cons_zero, List.set_cons_succ]
        refine wpAnyH_ready (rs := [11]) (by kernel_rfl) (by simp) ?_
        refine AllReadyH.cons rfl (fun K hK => ?_) AllReadyH.nil
        go_simp
        refine (CN3.out wd Ad cd Pd.out.wr Pd.out.sz).mono ?_; rintro r we ⟨Ae, ce, rfl, hwe, ste⟩; have Pe := Lib.hid (Pd.out.step hwe ste); clear hwe ste
        go_wp2_with fail
        refine hK.out _ _ ?_ (fun hHeld => ?_)
        · (try dsimp only); exact Pe.out.nums
        clear hK K
        try simp only [Act.put, List.getElem_toArray, List.getElem_cons_zero, List.getElem_cons_succ, List.setIfInBounds_toArray, List.set_cons_zero, List.set_cons_succ]
        refine wpAnyH_done (by kernel_rfl) ?_ _
        go_wp2
        first | go_end0 | refine bodyPost_ret (results_none rfl _ _ _) rfl ?_
        exact ⟨Ae, ce, rfl, by rw [HLS.out]; exact Pe.out.wr, Pe.out.st⟩
      · have t1 : (e.kind == 1) = false := by rw [beq_eq_false_iff_ne]; exact hk1
        have HLR := Lib.hid (show LL = L7 by rw [HLQ.out, if_neg hk1, List.append_nil])
        clear hk1
        go_wp2
        first | go_end0 | refine bodyPost_ret (results_none rfl _ _ _) rfl ?_
        exact ⟨A7, c7', rfl, by rw [HLR.out]; exact P7.out.wr, P7.out.st⟩
end Go.Proofs.YtpakmeegldgjmaaGreat
/- Layer 20 (event): item, Get, of an event that was packed. -/
namespace Go.Proofs.YtpakmeegldgjmaaGreat
open Go.RowKit
set_option linter.unusedVariables false
set_option linter.unusedSimpArgs false
set_option maxRecDepth 100000
attribute [local go_sem ↓] Go.wp_at_zero Go.wp_at_succ
attribute [local go_sem] bs_size bs_list bs_nil_list

theorem stG_puts {d i s : Int} (h : stB d i s = true) (R : List UInt8) : stG (stP d i s ++ R) 0 = ((d.toNat, i.toNat, s.toNat), R, 0) := by
  have hb := h
  simp [stB, inB] at hb
  unfold stG stP
  rw [if_pos h]
  simp only [List.append_assoc]
  simp only [rnumR_putx (vput i.toNat ++ (vput s.toNat ++ R)) (show d.toNat ≤ 4398046511104 by omega) (by omega), rnumR_putx (vput s.toNat ++ R) (show i.toNat ≤ 65535 by omega) (by omega), rnumR_putx R (show s.toNat ≤ 63 by omega) (by omega)]
theorem stGV_puts {d i s : Int} (h : stB d i s = true) (R : List UInt8) : stGV (stP d i s ++ R) 0 = stV d i s := by
  have hb := h
  simp [stB, inB] at hb
  unfold stGV
  rw [stG_puts h]
  simp only [ne_eq, not_true_eq_false, if_false]
  rw [Int.toNat_of_nonneg (by omega), Int.toNat_of_nonneg (by omega), Int.toNat_of_nonneg (by omega)]
theorem cget_put (d i s : Int) (hq : stB d i s = true) (R : List UInt8) (w : World) (b : Nat) (A : Option Addr) (n c : Nat) (h : Re w b A n c (stP d i s ++ R) 0) :
    Calls Tryz.prog 81 #[.pointer (some ⟨b, 0, none⟩)] w (REnd w b (R, 0) (stV d i s)) := by
  have := cget_any w b A n c _ 0 h
  rw [stG_puts hq, stGV_puts hq] at this
  exact this
/-- The result's own block, as it was laid. -/
def zeroE : Array Value := #[.int .i64 0, .int .i64 0, .int .i64 0, .int .i64 0, .int .i64 0, .int .i64 0, .int .i64 0, .string ⟨#[]⟩, .string ⟨#[]⟩, .string ⟨#[]⟩, .string ⟨#[]⟩, .bool false, .bool false, .bool false, .bool false, .int .i64 0, .int .i64 0, .int .i64 0, .slice none 0 0]
/-- What is told while an event is read: the reader, the event that is made, the block of the result. -/
structure GS (w : World) (b X Rz : Nat) (W : World) (A : Option Addr) (n c : Nat) (l : List UInt8) (e : Ed) (Ao : Option Addr) (co : Nat) : Prop where
  re : Re W b A n c l 0
  ev : Whole W X 59 (evA e Ao co)
  rz : Whole W Rz 59 zeroE
  bx : b < w.heap.size
  wx : w.heap.size ≤ X
  wr : w.heap.size ≤ Rz
  ne : X ≠ Rz
  ch : Ch (fun k => k = b) w W
  ow : Own W w.heap.size 50 3 Ao e.over.length co (dts e.over)
section
variable {w W W' : World} {b X Rz n c n' c' co : Nat} {A A' Ao : Option Addr} {l l' : List UInt8} {e e' : Ed}
theorem GS.read (h : GS w b X Rz W A n c l e Ao co) (hr : Re W' b A' n' c' l' 0) (hc : Ch (fun k => k = b) W W') : GS w b X Rz W' A' n' c' l' e Ao co :=
  have h1 := h.bx; have h2 := h.wx; have h3 := h.wr
  ⟨hr, h.ev.ch hc (by omega), h.rz.ch hc (by omega), h1, h2, h3, h.ne, h.ch.trans hc (fun _ _ e => e), h.ow.ch hc (fun k hk _ _ e => by omega)⟩
theorem GS.set_ (h : GS w b X Rz W A n c l e Ao co) (i : Nat) (v : Value) (he : (evA e Ao co).setIfInBounds i v = evA e' Ao co) (ho : e'.over = e.over) : GS w b X Rz (W.setCell ⟨X, i, none⟩ v) A n c l e' Ao co := by
  have h1 := h.bx; have h2 := h.wx; have h3 := h.wr; have h4 := h.ne
  obtain ⟨q1, q2, q3⟩ := h.re
  refine ⟨⟨q1.far (p := ⟨X, i, none⟩) (by show b ≠ X; omega) v, q2.setCell (p := ⟨X, i, none⟩) (by show b ≤ X; omega) v, q3⟩, he ▸ h.ev.set_ i v, h.rz.far (p := ⟨X, i, none⟩) (by show Rz ≠ X; omega) v, h1, h2, h3, h4, h.ch.trans (Ch.set_ W ⟨X, i, none⟩ v) (fun k hk e => by have e' : k = X := e; omega), ?_⟩
  rw [ho]
  exact h.ow.far (p := ⟨X, i, none⟩) (h.ow.ne_ h.ev (by decide)) v
theorem GS.low (h : GS w b X Rz W A n c l e Ao co) (k : Below W.heap.size W W') : GS w b X Rz W' A n c l e Ao co :=
  ⟨⟨h.re.1.below k h.re.1.lt, h.re.2.1.below (below_of_le k (Nat.le_of_lt h.re.1.lt)), h.re.2.2⟩, h.ev.below k h.ev.lt, h.rz.below k h.rz.lt, h.bx, h.wx, h.wr, h.ne, h.ch.trans (below_ch (S := fun _ => False) k) (fun _ _ hf => hf.elim), h.ow.below k (Nat.le_refl _)⟩
end
theorem text_put (t : List UInt8) (m : Nat) (R : List UInt8) (w : World) (b : Nat) (A : Option Addr) (n c : Nat) (h : Re w b A n c (txP t ++ R) 0) (hm : t.length ≤ m) (hm2 : m ≤ 100000) :
    Calls Tryz.prog 107 #[.pointer (some ⟨b, 0, none⟩), .int .i64 m] w (REnd w b (R, 0) (.string (bs t))) :=
  rtext_put (bs t) R w b A n c m (by unfold txP at h; rw [List.append_assoc] at h; exact h) hm (by omega)
set_option maxHeartbeats 4000000 in
theorem evitem_any (e e1 : Ed) (R : List UInt8) (w : World) (b X Rz : Nat) (W : World) (A : Option Addr) (n c : Nat) (Ao : Option Addr) (co : Nat) (h : GS w b X Rz W A n c (itP e ++ R) e1 Ao co) (ok : EvOk e) (hk : e.kind = 1) :
    Calls Tryz.prog 83 #[.pointer (some ⟨b, 0, none⟩), .pointer (some ⟨X, 0, none⟩)] W fun r W' => r = .returned (.tuple #[]) ∧ ∃ A' n' c', GS w b X Rz W' A' n' c' R { e1 with name := e.name, dom := e.dom, path := e.path, value := e.value, exp := e.exp, cre := e.cre, acc := e.acc } Ao co := by
  have lens := Lib.hid (ok.lens hk)
  have tms := Lib.hid (ok.times hk)
  obtain ⟨cn, hcn⟩ := Int.eq_ofNat_of_zero_le tms.out.2.2.1
  obtain ⟨an, han⟩ := Int.eq_ofNat_of_zero_le tms.out.2.2.2.2.1
  have hl : itP e ++ R = txP e.name ++ (txP e.dom ++ (txP e.path ++ (txP e.value ++ (vput (foldI e.exp).toNat ++ (vput cn ++ (vput an ++ R)))))) := by
    unfold itP
    rw [hcn, han]
    simp
  rw [hl] at h
  have G1 := Lib.hid h
  have T1 := Lib.hid (fun W A n c h => text_put e.name 256 (txP e.dom ++ (txP e.path ++ (txP e.value ++ (vput (foldI e.exp).toNat ++ (vput cn ++ (vput an ++ R)))))) W b A n c h lens.out.1 (by omega))
  have T2 := Lib.hid (fun W A n c h => text_put e.dom 256 (txP e.path ++ (txP e.value ++ (vput (foldI e.exp).toNat ++ (vput cn ++ (vput an ++ R))))) W b A n c h lens.out.2.1 (by omega))
  have T3 := Lib.hid (fun W A n c h => text_put e.path 256 (txP e.value ++ (vput (foldI e.exp).toNat ++ (vput cn ++ (vput an ++ R)))) W b A n c h lens.out.2.2.1 (by omega))
  have T4 := Lib.hid (fun W A n c h => text_put e.value 1024 (vput (foldI e.exp).toNat ++ (vput cn ++ (vput an ++ R))) W b A n c h lens.out.2.2.2 (by omega))
  rw [show ((256 : Nat) : Int) = 256 from rfl] at T1 T2 T3
  rw [show ((1024 : Nat) : Int) = 1024 from rfl] at T4
  have T5 := Lib.hid (fun W A n c h => rint_put e.exp (vput cn ++ (vput an ++ R)) W b A n c 1099511627776 h (by omega) (by omega) tms.out.1 tms.out.2.1)
  have T6 := Lib.hid (fun (W : World) A n c (h : Re W b A n c (vput cn ++ (vput an ++ R)) 0) => by have := rnum_any W b A n c _ 0 1099511627776 h; rw [rnumR_putx _ (by have := tms.out; omega) (by have := tms.out; omega)] at this; exact this)
  have T7 := Lib.hid (fun (W : World) A n c (h : Re W b A n c (vput an ++ R) 0) => by have := rnum_any W b A n c _ 0 1099511627776 h; rw [rnumR_putx _ (by have := tms.out; omega) (by have := tms.out; omega)] at this; exact this)
  rw [show ((1099511627776 : Nat) : Int) = 1099511627776 from rfl] at T6 T7
  have y6 : IntKind.i64.wrap (cn : Int) = e.cre := by rw [hcn]; exact IntWalk.i64_in _ (by have := tms.out; omega)
  have y7 : IntKind.i64.wrap (an : Int) = e.acc := by rw [han]; exact IntWalk.i64_in _ (by have := tms.out; omega)
  clear lens tms hl h hcn han hk
  go_enter Tryz.func83, Tryz.ntmps83
  go_wp2
  go_quiet (fail)
  have G1 := Lib.hid (G1.out.low (below_drewN (Below.refl _ _) nq))
  generalize W.drewN nq = V1 at *
  go_wp2_with fail
  refine (T1.out _ _ _ _ G1.out.re).mono ?_; rintro r w2 ⟨A2, n2, c2, rfl, hr2, hc2⟩
  have H2 := Lib.hid (G1.out.read hr2 hc2)
  clear hr2 hc2
  have k2 := H2.out.ev.cell 7
  have k2 : w2.cell? ⟨X, 7, none⟩ = some (_) := k2
  have f2 := H2.out.ev.free 7
  have G2 := Lib.hid (H2.out.set_ 7 (.string (bs e.name)) (e' := { e1 with name := e.name }) rfl rfl)
  go_wp2_with fail
  refine (T2.out _ _ _ _ G2.out.re).mono ?_; rintro r w3 ⟨A3, n3, c3, rfl, hr3, hc3⟩
  have H3 := Lib.hid (G2.out.read hr3 hc3)
  clear hr3 hc3
  have k3 := H3.out.ev.cell 8
  have k3 : w3.cell? ⟨X, 8, none⟩ = some (_) := k3
  have f3 := H3.out.ev.free 8
  have G3 := Lib.hid (H3.out.set_ 8 (.string (bs e.dom)) (e' := { e1 with name := e.name, dom := e.dom }) rfl rfl)
  go_wp2_with fail
  refine (T3.out _ _ _ _ G3.out.re).mono ?_; rintro r w4 ⟨A4, n4, c4, rfl, hr4, hc4⟩
  have H4 := Lib.hid (G3.out.read hr4 hc4)
  clear hr4 hc4
  have k4 := H4.out.ev.cell 9
  have k4 : w4.cell? ⟨X, 9, none⟩ = some (_) := k4
  have f4 := H4.out.ev.free 9
  have G4 := Lib.hid (H4.out.set_ 9 (.string (bs e.path)) (e' := { e1 with name := e.name, dom := e.dom, path := e.path }) rfl rfl)
  go_wp2_with fail
  refine (T4.out _ _ _ _ G4.out.re).mono ?_; rintro r w5 ⟨A5, n5, c5, rfl, hr5, hc5⟩
  have H5 := Lib.hid (G4.out.read hr5 hc5)
  clear hr5 hc5
  have k5 := H5.out.ev.cell 10
  have k5 : w5.cell? ⟨X, 10, none⟩ = some (_) := k5
  have f5 := H5.out.ev.free 10
  have G5 := Lib.hid (H5.out.set_ 10 (.string (bs e.value)) (e' := { e1 with name := e.name, dom := e.dom, path := e.path, value := e.value }) rfl rfl)
  go_wp2_with fail
  refine (T5.out _ _ _ _ G5.out.re).mono ?_; rintro r w6 ⟨A6, n6, c6, rfl, hr6, hc6⟩
  have H6 := Lib.hid (G5.out.read hr6 hc6)
  clear hr6 hc6
  have k6 := H6.out.ev.cell 15
  have k6 : w6.cell? ⟨X, 15, none⟩ = some (_) := k6
  have f6 := H6.out.ev.free 15
  have G6 := Lib.hid (H6.out.set_ 15 (.int .i64 e.exp) (e' := { e1 with name := e.name, dom := e.dom, path := e.path, value := e.value, exp := e.exp }) rfl rfl)
  go_wp2_with fail
  refine (T6.out _ _ _ _ G6.out.re).mono ?_; rintro r w7 ⟨A7, n7, c7, rfl, hr7, hc7⟩
  have H7 := Lib.hid (G6.out.read hr7 hc7)
  clear hr7 hc7
  have k7 := H7.out.ev.cell 16
  have k7 : w7.cell? ⟨X, 16, none⟩ = some (_) := k7
  have f7 := H7.out.ev.free 16
  have G7 := Lib.hid (H7.out.set_ 16 (.int .i64 e.cre) (e' := { e1 with name := e.name, dom := e.dom, path := e.path, value := e.value, exp := e.exp, cre := e.cre }) rfl rfl)
  go_wp2_with fail
  refine (T7.out _ _ _ _ G7.out.re).mono ?_; rintro r w8 ⟨A8, n8, c8, rfl, hr8, hc8⟩
  have H8 := Lib.hid (G7.out.read hr8 hc8)
  clear hr8 hc8
  have k8 := H8.out.ev.cell 17
  have k8 : w8.cell? ⟨X, 17, none⟩ = some (_) := k8
  have f8 := H8.out.ev.free 17
  have G8 := Lib.hid (H8.out.set_ 17 (.int .i64 e.acc) (e' := { e1 with name := e.name, dom := e.dom, path := e.path, value := e.value, exp := e.exp, cre := e.cre, acc := e.acc }) rfl rfl)
  go_wp2
  first | go_end0 | refine bodyPost_ret (results_none rfl _ _ _) rfl ?_
  exact ⟨rfl, _, _, _, G8.out⟩
end Go.Proofs.YtpakmeegldgjmaaGreat
/- Stores of a struct into a part of a block; results that lie in a block. -/
namespace Go.Proofs.YtpakmeegldgjmaaGreat
open Go.RowKit
set_option linter.unusedVariables false
set_option maxRecDepth 100000

section
variable {P : Program} {W : World} {g : Nat} {t T : TypeId} {cs : Array Value} {d : TypeDesc} {ops : Array Oper} {rest : List Oper} {op : Oper} {a : Act} {Q : Exit → Act → World → Prop}
/-- The store of a struct into a part of a whole block. -/
theorem st_mid {C vs : Array Value} {o : Nat} (hg : Region.wanted op (yielded ops a.tmps) = true) (x y : Operand) (ho : op.op = .store T x y) (hx : a.eval x = .pointer (some ⟨g, o, none⟩)) (hy : a.eval y = .agg vs) (hW : Whole W g t C) (hs : o + vs.size ≤ C.size) (hi : (P.info? T).map (·.size) = some vs.size) (h1 : vs.toList.all (·.oneCell') = true)
    (h : ∀ W', Whole W' g t (setMany C o vs.toList) → Ch (fun k => k = g) W W' → W'.heap.size = W.heap.size → wpList P ops Q rest (a.put op.dst undef) W') : wpList P ops Q (op :: rest) a W :=
  wpList_want hg fun K hK => wp_store_mid T x y ho g o vs hx hy (fun j hj => ⟨by rw [hW.cell]; simp; have := hj; omega, hW.free _⟩) hi (by rw [← Array.all_toList]; exact h1) (hK _ _ (h _ (heap_setCells vs.toList W C o hW) (ch_setCells _ _ _ _).1 (ch_setCells _ _ _ _).2))
/-- A result that lies in a block. -/
theorem results_cell {fn : Func} {b : Tmp} {vs : Array Value} {tmps : Array Value} (h : fn.results = #[.cell b T]) (hx : tmps.getD b undef = .pointer (some ⟨g, 0, none⟩)) (hW : W.rangeAt g 0 vs.toList) (hu : P.underlying T = some d) (hd : d.isRow = true) (hi : (P.info? T).map (·.size) = some vs.size) :
    (results fn tmps).run P W = .ok (.agg vs) W := by
  have := run_loadVar_mid W g 0 T vs.toList d hW hu hd (by rw [hi]; simp)
  simp only [Array.toArray_toList] at this
  have hx' : tmps[b]?.getD undef = .pointer (some ⟨g, 0, none⟩) := by rw [← hx]; simp
  simp [results, h, hx', asAddr, this]
/-- Two results, of which the first one lies in a block. -/
theorem results_cell2 {fn : Func} {b u : Tmp} {vs : Array Value} {tmps : Array Value} (h : fn.results = #[.cell b T, .tmp u]) (hx : tmps.getD b undef = .pointer (some ⟨g, 0, none⟩)) (hW : W.rangeAt g 0 vs.toList) (hu : P.underlying T = some d) (hd : d.isRow = true) (hi : (P.info? T).map (·.size) = some vs.size) :
    (results fn tmps).run P W = .ok (.tuple #[.agg vs, tmps.getD u undef]) W := by
  have := run_loadVar_mid W g 0 T vs.toList d hW hu hd (by rw [hi]; simp)
  simp only [Array.toArray_toList] at this
  have hx' : tmps[b]?.getD undef = .pointer (some ⟨g, 0, none⟩) := by rw [← hx]; simp
  simp [results, h, hx', asAddr, this]
/-- 'buildSlice' of one element as a step of a region that draws, its run known. -/
theorem step_bslice {K : Act → World → Prop} {E : Prop} (hg : op.guard = none) (x : Operand) (ho : op.op = .buildSlice T 1 #[(0, x)]) (v : Value) (hx : a.eval x = v) (v' : Value) (w' : World) (hr : (Instr.buildSlice T 1 #[(0, v)]).run P W = .ok v' w') (h : K (a.put op.dst v') w') : if Region.wanted op (yielded ops a.tmps) = true then Oper.wp P op a W K Q else E := by
  have hw : Region.wanted op (yielded ops a.tmps) = true := by simp [Region.wanted, hg]
  rw [if_pos hw]
  unfold Oper.wp execOp
  simp only [ho, List.map_toArray, List.map_cons, List.map_nil, hx]
  simp only [Sem.run_bind, hr, Result.andThen_ok]
  exact h
/-- The same in a plain region. -/
theorem wpl_bslice (hg : Region.wanted op (yielded ops a.tmps) = true) (x : Operand) (ho : op.op = .buildSlice T 1 #[(0, x)]) (v : Value) (hx : a.eval x = v) (v' : Value) (w' : World) (hr : (Instr.buildSlice T 1 #[(0, v)]).run P W = .ok v' w') (h : wpList P ops Q rest (a.put op.dst v') w') : wpList P ops Q (op :: rest) a W :=
  wpList_want hg fun K hK => by
    unfold Oper.wp execOp
    simp only [ho, List.map_toArray, List.map_cons, List.map_nil, hx]
    simp only [Sem.run_bind, hr, Result.andThen_ok]
    exact hK _ _ h
end
end Go.Proofs.YtpakmeegldgjmaaGreat
/- Layer 20 (event): Get, of an event that was packed. -/
namespace Go.Proofs.YtpakmeegldgjmaaGreat
open Go.RowKit
set_option linter.unusedVariables false
set_option linter.unusedSimpArgs false
set_option maxRecDepth 100000
attribute [local go_sem ↓] Go.wp_at_zero Go.wp_at_succ
attribute [local go_sem] bs_size bs_list bs_nil_list

section
variable {w W W' : World} {b X Rz n c n' c' co : Nat} {A A' Ao : Option Addr} {l l' : List UInt8} {e e' : Ed}
theorem GS.x_apart (h : GS w b X Rz W A n c l e Ao co) : bl Ao ≠ some X := by have := h.ow.ne_ h.ev (by decide); rwa [ownBlock_bl] at this
theorem GS.r_apart (h : GS w b X Rz W A n c l e Ao co) : bl Ao ≠ some Rz := by have := h.ow.ne_ h.rz (by decide); rwa [ownBlock_bl] at this
/-- Behind an append to Over, ahead of its store. -/
theorem GS.mid (h : GS w b X Rz W A n c l e Ao co) (hC : Ch (fun k => some k = bl Ao) W W') : Re W' b A n c l 0 ∧ Whole W' X 59 (evA e Ao co) ∧ Whole W' Rz 59 zeroE := by
  have h1 := h.bx
  have hlo : ∀ k, some k = bl Ao → w.heap.size ≤ k := fun k hk => h.ow.bl_lo k hk.symm
  refine ⟨⟨h.re.1.ch hC (fun e => by have := hlo _ e; omega), h.re.2.1.ch (Nat.le_of_lt h.re.1.lt) hC (fun k hk _ e => by have := hlo _ e; omega), h.re.2.2⟩, h.ev.ch hC (fun e => h.x_apart e.symm), h.rz.ch hC (fun e => h.r_apart e.symm)⟩
theorem GS.app (h : GS w b X Rz W A n c l e Ao co) {A2 : Option Addr} {c2 : Nat} {x : Dt} (hC : Ch (fun k => some k = bl Ao) W W') (ho : Own W' w.heap.size 50 3 A2 (e.over.length + 1) c2 (dts (e.over ++ [x]))) :
    GS w b X Rz (W'.setCell ⟨X, 18, none⟩ (.slice A2 (e.over.length + 1) c2)) A n c l { e with over := e.over ++ [x] } A2 c2 := by
  obtain ⟨hr, hx, hz⟩ := h.mid hC
  have h1 := h.bx; have h2 := h.wx; have h3 := h.wr; have h4 := h.ne
  have hlo : ∀ k, some k = bl Ao → w.heap.size ≤ k := fun k hk => h.ow.bl_lo k hk.symm
  obtain ⟨q1, q2, q3⟩ := hr
  have hs : (evA e Ao co).setIfInBounds 18 (.slice A2 (e.over.length + 1) c2) = evA { e with over := e.over ++ [x] } A2 c2 := by
    unfold evA
    simp
  refine ⟨⟨q1.far (p := ⟨X, 18, none⟩) (by show b ≠ X; omega) _, q2.setCell (p := ⟨X, 18, none⟩) (by show b ≤ X; omega) _, q3⟩, hs ▸ hx.set_ 18 _, hz.far (p := ⟨X, 18, none⟩) (by show Rz ≠ X; omega) _, h1, h2, h3, h4, ?_, ?_⟩
  · exact (h.ch.trans hC (fun k hk e => by have := hlo k e; omega)).trans (Ch.set_ W' ⟨X, 18, none⟩ _) (fun k hk e => by have e' : k = X := e; omega)
  · have := ho.far (p := ⟨X, 18, none⟩) (ho.ne_ hx (by decide)) (.slice A2 (e.over.length + 1) c2)
    simpa using this
/-- The flags stay. -/
theorem fl_read {FB k : Nat} {xs : List Value} {B : Nat} (h : Own W B 4 1 (some ⟨FB, 0, none⟩) k k xs) (hc : Ch (fun k => k = b) W W') (hb : b ≠ FB) : Own W' B 4 1 (some ⟨FB, 0, none⟩) k k xs :=
  h.ch hc (fun j _ _ hj e => by simp [bl] at hj; omega)
theorem fl_app {FB k : Nat} {xs : List Value} {B : Nat} (h : Own W B 4 1 (some ⟨FB, 0, none⟩) k k xs) (g : GS w b X Rz W A n c l e Ao co) (hC : Ch (fun k => some k = bl Ao) W W') : Own W' B 4 1 (some ⟨FB, 0, none⟩) k k xs :=
  h.ch hC (fun j _ _ hj e => by
    have hp := h.apart g.ow (by decide)
    exact hp j hj e.symm)
theorem fl_set {FB k : Nat} {xs : List Value} {B : Nat} (h : Own W B 4 1 (some ⟨FB, 0, none⟩) k k xs) (hX : Whole W X 59 (evA e Ao co)) (i : Nat) (v : Value) : Own (W.setCell ⟨X, i, none⟩ v) B 4 1 (some ⟨FB, 0, none⟩) k k xs :=
  h.far (p := ⟨X, i, none⟩) (h.ne_ hX (by decide)) v
theorem fl_cell {FB i : Nat} {fl : List Bool} {B : Nat} (h : Own W B 4 1 (some ⟨FB, 0, none⟩) 5 5 (tv fl)) (v : Bool) (hi : fl[i]? = some v) : W.cell? ⟨FB, i, none⟩ = some (.bool v) := by
  have := h.1.cells (g := FB) rfl i (.bool v) (by simp [tv, hi])
  have e0 : (⟨FB, 0, none⟩ : Addr).add i = ⟨FB, i, none⟩ := by by_cases hj : i = 0 <;> simp [Addr.add, hj]
  rw [e0] at this
  exact this
end
end Go.Proofs.YtpakmeegldgjmaaGreat
