/- TopWire: part 4 of what the proof rests on: contracts of functions, and plain laws. -/
import Derived.WalkKit
import Derived.ProofKit
import Derived.OpenShut
import Derived.Handy
import Derived.Outline
import Derived.Lib.Hide
import Derived.Deep.Draws
import Derived.Laws.OwnMore
import Derived.Laws.AppendOwn
import Derived.Laws.AppendOwnNone
import Derived.Laws.BitsAllLaws
import Derived.Laws.Bits64b
import Derived.Lib.AppendZeros
import Derived.Lib.AppendZerosOnto
import Derived.Laws.CopyRow
import Derived.Lib.AppendStr
import Derived.Test.YtpakmeegldgjmaaGreatRows
import Derived.Lib.Zigzag
import Derived.Deep.QuietTactic
import Derived.BigQuiet
import Derived.Deep.LoopGhost
import Derived.BigRegion
import Derived.RegionTactic
import Derived.Deep.WholeRow
import Derived.Deep.Slices
import Derived.Lib.Varint
import Derived.WalkSpells
import Derived.Laws.BytesString
import Derived.Laws.Concat
import Derived.IntWalk
import Derived.Test.YtpakmeegldgjmaaGreatProg
import Derived.Deep.RegionHeld3
import Derived.StillTailTactics
import Derived.Laws.StructEq
import Derived.Lib.SmallJoins
import Derived.Deep.Strs
import Derived.Laws.IdiomStrings
import Derived.Lib.SlBytesConst
import Derived.Deep.RegionWith
import Derived.Maps.Own
import Derived.Maps.OwnSet
import Derived.Maps.Range
import Derived.DeepKeys4
import Derived.ChangeKeysEq
import Derived.DeepKeys2
import Derived.RangeFuncNested
import Derived.RangeFuncBound
import Derived.RangeFuncCalls
import Derived.RangeFuncLeaves
import Derived.Sort.MapsRangeIn
import Derived.OwnWalkIn
import Derived.TacticsInMore
import Derived.RegionIn
import Derived.LoopNIn
import Derived.LoopIn
import Derived.Maps.AppendAt
import Derived.Sort.Grow
import Derived.Shelf.GgSortFunc.InsertionK
import Derived.Shelf.SlSortCmp.NoneTotal
import Derived.WideKeyEntry
import Derived.Deep.CutBlock
import Derived.Deep.CutRange
import Derived.Deep.RegionLaw
import Derived.Deep.DeepCutAuto
import Derived.Deep.DrawnRows
import Derived.WalkLawsBesides
import Derived.Deep.MidRow
import Derived.Laws.Strings2
import Derived.Test.YtpakmeegldgjmaaGreatKTopWire03
/- Layer 20 (event): over. -/
namespace Go.Proofs.YtpakmeegldgjmaaGreat
open Go.RowKit
set_option linter.unusedVariables false
set_option linter.unusedSimpArgs false
set_option maxRecDepth 100000
attribute [local go_sem ↓] Go.wp_at_zero Go.wp_at_succ

/-- May a dot be behind another one, over which an event is? -/
def okP (o : Dt) (p : Option Dt) (x : Dt) : Bool := rightD x && (match p with | none => true | some q => dLt q x) && !(decide (x.1 = o.1) && decide (o.2 ≤ x.2))
def prevAt {α : Type} (p : Option α) (L : List α) (j : Nat) : Option α := if j = 0 then p else L[j - 1]?
theorem prevAt_cons {α : Type} (p : Option α) (d : α) (r : List α) (j : Nat) : prevAt p (d :: r) (j + 1) = prevAt (some d) r j := by
  unfold prevAt
  rw [if_neg (by omega)]
  cases j with
  | zero => rfl
  | succ j => rw [if_neg (by omega)]; simp
theorem ovG_cons (o : Dt) (p : Option Dt) (d : Dt) (r : List Dt) : ovG o p (d :: r) = (okP o p d && ovG o (some d) r) := rfl
theorem ovG_yes {o : Dt} {p : Option Dt} {L : List Dt} (h : ∀ j x, L[j]? = some x → okP o (prevAt p L j) x = true) : ovG o p L = true := by
  induction L generalizing p with
  | nil => rfl
  | cons d r ih =>
    have h0 : okP o p d = true := h 0 d rfl
    rw [ovG_cons, h0, ih (p := some d) (fun j x hx => by have := h (j + 1) x hx; rwa [prevAt_cons] at this)]
    rfl
theorem ovG_no {o : Dt} {p : Option Dt} {L : List Dt} {j : Nat} {x : Dt} (hx : L[j]? = some x) (h : okP o (prevAt p L j) x = false) : ovG o p L = false := by
  induction L generalizing p j with
  | nil => simp at hx
  | cons d r ih =>
    rw [ovG_cons]
    cases j with
    | zero =>
      simp at hx
      subst hx
      have h' : okP o p d = false := h
      rw [h']
      rfl
    | succ j =>
      rw [prevAt_cons] at h
      rw [ih (p := some d) (j := j) (by simpa using hx) h, Bool.and_false]
theorem ok_step {o : Dt} {L : List Dt} {j : Nat} {x0 : Dt} (h : ∀ k x, k < j → L[k]? = some x → okP o (prevAt none L k) x = true) (hx : L[j]? = some x0) (h0 : okP o (prevAt none L j) x0 = true) :
    ∀ k x, k < j + 1 → L[k]? = some x → okP o (prevAt none L k) x = true := fun k x hk hx' => by
  by_cases hkj : k = j
  · subst hkj
    rw [hx] at hx'
    injection hx' with hx'
    subst hx'
    exact h0
  · exact h k x (by omega) hx'
theorem less_dLt (d i s d' i' s' : Int) (w : World) : Calls Tryz.prog 98 #[dotV d i s, dotV d' i' s'] w fun e w' => e = .returned (.bool (dLt ((d, i), s) ((d', i'), s'))) ∧ Below w.heap.size w w' := by
  have h := less_any d i s d' i' s' w
  rw [ord_less] at h
  have e := rless_dLt ((d, i), s) ((d', i'), s')
  simp only at e
  rw [e] at h
  exact h
theorem rless_dLt' (d i s d' i' s' : Int) (w : World) : Calls Tryz.prog 27 #[dotV d i s, dotV d' i' s'] w fun e w' => e = .returned (.bool (dLt ((d, i), s) ((d', i'), s'))) ∧ Below w.heap.size w w' := by
  have h := rdless_any d i s d' i' s' w
  have e := rless_dLt ((d, i), s) ((d', i'), s')
  simp only at e
  rw [e] at h
  exact h
/-- An event's cells, where its Over lies at A. -/
def evA (e : Ed) (A : Option Addr) (c : Nat) : Array Value := #[.int .i64 e.dot.1.1, .int .i64 e.dot.1.2, .int .i64 e.dot.2, .int .i64 e.st.1, .int .i64 e.st.2.1, .int .i64 e.st.2.2, .int .i64 e.kind, .string (bs e.name), .string (bs e.dom), .string (bs e.path), .string (bs e.value), .bool e.ho, .bool e.se, .bool e.ht, .bool e.pe, .int .i64 e.exp, .int .i64 e.cre, .int .i64 e.acc, .slice A e.over.length c]
def evV (e : Ed) (A : Option Addr) (c : Nat) : Value := .agg #[.int .i64 e.dot.1.1, .int .i64 e.dot.1.2, .int .i64 e.dot.2, .int .i64 e.st.1, .int .i64 e.st.2.1, .int .i64 e.st.2.2, .int .i64 e.kind, .string (bs e.name), .string (bs e.dom), .string (bs e.path), .string (bs e.value), .bool e.ho, .bool e.se, .bool e.ht, .bool e.pe, .int .i64 e.exp, .int .i64 e.cre, .int .i64 e.acc, .slice A e.over.length c]
/-- An event in a box, and its Over. -/
def EV (N : Nat) (w : World) (E : Nat) (e : Ed) (A : Option Addr) (c : Nat) (W : World) : Prop := Whole W E 59 (evA e A c) ∧ Ds W N A e.over ∧ Below N w W ∧ N ≤ W.heap.size
theorem EV.step {N E c : Nat} {w W W' : World} {e : Ed} {A : Option Addr} (h : EV N w E e A c W) (b : Below W.heap.size W W') : EV N w E e A c W' :=
  ⟨h.1.below b h.1.lt, Ds.below h.2.1 (below_of_le b h.2.2.2), h.2.2.1.trans (below_of_le b h.2.2.2), Nat.le_trans h.2.2.2 b.size⟩
theorem EV.drew {N E c : Nat} {w W : World} {e : Ed} {A : Option Addr} (h : EV N w E e A c W) : EV N w E e A c W.drew := h.step (Below.refl _ _).drew
theorem EV.alloc {N E c : Nat} {w W : World} {e : Ed} {A : Option Addr} (h : EV N w E e A c W) (o : Obj) : EV N w E e A c (W.alloc o) := h.step ((Below.refl _ _).alloc (Nat.le_refl _) o)
theorem ev_new (w : World) (e : Ed) (A : Option Addr) (c : Nat) (h : MsAt w A e.over) : EV w.heap.size w w.heap.size e A c (w.alloc (.cells (evA e A c) 59)) :=
  ⟨Whole.new _ _ _, Ds.below h ((Below.refl _ _).alloc (Nat.le_refl _) _), (Below.refl _ _).alloc (Nat.le_refl _) _, by simp⟩
set_option maxHeartbeats 8000000 in
theorem over_any (e : Ed) (A : Option Addr) (c : Nat) (w : World) (h : MsAt w A e.over) (hn : e.over.length ≤ 1000000) : Calls Tryz.prog 86 #[evV e A c] w fun r w' => r = .returned (.bool (overB e.dot e.over)) ∧ Below w.heap.size w w' := by
  have hE := ev_new w e A c h
  unfold evA at hE
  unfold evV
  obtain ⟨⟨⟨o1, o2⟩, o3⟩, st, kind, name, dom, path, value, ho, se, ht, pe, exp, cre, acc, L⟩ := e
  simp only at hE hn ⊢
  have HV := Lib.hid (show overB ((o1, o2), o3) L = (decide (L.length ≤ 64) && ovG ((o1, o2), o3) none L) from rfl)
  generalize hlen : L.length = n at *
  have HLn := Lib.hid hlen
  have HE := Lib.hid hE
  clear hlen h hE
  by_cases h64 : n ≤ 64
  · have t1 : decide ((64 : Int) < (n : Int)) = false := decide_eq_false (by omega)
    have t1n : decide (64 < n) = false := decide_eq_false (by omega)
    have HV2 := Lib.hid (show overB ((o1, o2), o3) L = ovG ((o1, o2), o3) none L by rw [HV.out, decide_eq_true h64]; rfl)
    go_enter Tryz.func86, Tryz.ntmps86
    go_wp2
    go_loopw [12] (fun i wr => ∃ j : Nat, j ≤ n ∧ i = .int .i64 j ∧ (∀ k x, k < j → L[k]? = some x → okP ((o1, o2), o3) (prevAt none L k) x = true) ∧ EV w.heap.size w w.heap.size ⟨((o1, o2), o3), st, kind, name, dom, path, value, ho, se, ht, pe, exp, cre, acc, L⟩ A c wr) (fun i _ => n - (intOf i).toNat)
    case atStart => exact ⟨0, by omega, rfl, fun k x hk => absurd hk (by omega), HE.out⟩
    case round =>
      obtain ⟨j, hj, rfl, hk, hEV⟩ := hrel
      have HK := Lib.hid (And.intro hk hEV)
      clear hk hEV HE
      by_cases hlt : j < n
      · obtain ⟨x, hx⟩ : ∃ x, L[j]? = some x := ⟨L[j]'(by have := HLn.out; omega), List.getElem?_eq_getElem _⟩
        obtain ⟨b0, o0, hA, hbN, k0, k1, k2⟩ := Ds.at_ HK.out.2.2.1 hx
        subst hA
        obtain ⟨⟨x1, x2⟩, x3⟩ := x
        simp only at k0 k1 k2
        have HXj := Lib.hid hx
        clear hx
        have CR := Lib.hid (fun w => right_any x1 x2 x3 w)
        unfold dotV at CR
        go_upto_region 6 with fail
        have HEV1 := Lib.hid (HK.out.2.alloc (.cells #[.int .i64 x1, .int .i64 x2, .int .i64 x3] 50))
        have hD := Whole.new wr 50 #[.int .i64 x1, .int .i64 x2, .int .i64 x3]
        generalize hW1 : wr.alloc (.cells #[.int .i64 x1, .int .i64 x2, .int .i64 x3] 50) = W1 at *
        have hDl : wr.heap.size < W1.heap.size := hD.lt
        generalize wr.heap.size = D at *
        have hEl : w.heap.size < W1.heap.size := HEV1.out.1.lt
        have hbl : b0 < W1.heap.size := Nat.lt_of_lt_of_le hbN HEV1.out.2.2.2
        have hN0 : W1.heap.size ≤ W1.drew.heap.size := Nat.le_refl _
        have hS : W1.cell? ⟨D, 0, none⟩ = some (.int .i64 x1) ∧ W1.cell? ⟨D, 1, none⟩ = some (.int .i64 x2) ∧ W1.cell? ⟨D, 2, none⟩ = some (.int .i64 x3) ∧ W1.cell? ⟨w.heap.size, 0, none⟩ = some (.int .i64 o1) ∧ W1.cell? ⟨w.heap.size, 1, none⟩ = some (.int .i64 o2) ∧ W1.cell? ⟨w.heap.size, 2, none⟩ = some (.int .i64 o3) ∧ W1.cell? ⟨w.heap.size, 18, none⟩ = some (.slice (some ⟨b0, o0, none⟩) n c) := by
          refine ⟨?_, ?_, ?_, ?_, ?_, ?_, ?_⟩
          all_goals first | (rw [hD.cell]; rfl) | (rw [HEV1.out.1.cell]; rfl) | (rw [HEV1.out.1.cell]; show some (Value.slice _ L.length _) = _; rw [HLn.out])
        have HS := Lib.hid hS
        clear hS hW1 hD k0 k1 k2
        by_cases hj0 : j = 0
        · subst hj0
          have HPV := Lib.hid (show prevAt none L 0 = none from rfl)
          cases hr : dotB x1 x2 x3 with
          | false =>
            rw [hr] at CR
            have hr' : rightD ((x1, x2), x3) = false := hr
            clear hr
            have HX := Lib.hid (show okP ((o1, o2), o3) (prevAt none L 0) ((x1, x2), x3) = false from by unfold okP; rw [hr']; rfl)
            clear hr'
            refine wp_region_held_drew (S := (fun W => W.cell? ⟨D, 0, none⟩ = some (.int .i64 x1) ∧ W.cell? ⟨D, 1, none⟩ = some (.int .i64 x2) ∧ W.cell? ⟨D, 2, none⟩ = some (.int .i64 x3) ∧ W.cell? ⟨w.heap.size, 0, none⟩ = some (.int .i64 o1) ∧ W.cell? ⟨w.heap.size, 1, none⟩ = some (.int .i64 o2) ∧ W.cell? ⟨w.heap.size, 2, none⟩ = some (.int .i64 o3) ∧ W.cell? ⟨w.heap.size, 18, none⟩ = some (.slice (some ⟨b0, o0, none⟩) n c))) (by kernel_rfl) ?_ (fun hHeld => ?_)
            · (try dsimp only); exact HS.out
            refine wpAnyH_take (i := 0) (v := ?_) rfl (by kernel_rfl) (by kernel_rfl) (by kernel_rfl) (fun _ _ _ h => h) (Or.inl ⟨by rfl, ?_⟩) (by assumption) ?_
            rotate_left
            first | (focus ((intro w hSw; (try dsimp only at hSw); go_simp); (try with_reducible rfl); done)) | fail
            try simp only [Act.put, List.getElem_toArray, List.getElem_cons_zero, List.setIfInBounds_toArray, List.set_cons_zero, List.set_cons_succ]
            refine wpAnyH_ready (rs := [1]) (by kernel_rfl) (by simp) ?_
            refine AllReadyH.cons rfl (fun K hK => ?_) AllReadyH.nil
            go_simp
            refine (CR.out _).mono ?_; rintro r w5 ⟨rfl, b5⟩
            go_wp2_with fail
            refine hK.out _ _ ?_ (fun hHeld => ?_)
            · (try dsimp only); exact ⟨((below_of_le b5 hN0).cell hDl).trans hHeld.1, ((below_of_le b5 hN0).cell hDl).trans hHeld.2.1, ((below_of_le b5 hN0).cell hDl).trans hHeld.2.2.1, ((below_of_le b5 hN0).cell hEl).trans hHeld.2.2.2.1, ((below_of_le b5 hN0).cell hEl).trans hHeld.2.2.2.2.1, ((below_of_le b5 hN0).cell hEl).trans hHeld.2.2.2.2.2.1, ((below_of_le b5 hN0).cell hEl).trans hHeld.2.2.2.2.2.2⟩
            clear hK K
            try simp only [Act.put, List.getElem_toArray, List.getElem_cons_zero, List.getElem_cons_succ, List.setIfInBounds_toArray, List.set_cons_zero, List.set_cons_succ]
            have B5 := Lib.hid (below_of_le b5 hN0)
            clear b5
            refine wpAnyH_take (i := 2) (v := ?_) rfl (by kernel_rfl) (by kernel_rfl) (by kernel_rfl) (fun _ _ _ h => h) (Or.inl ⟨by rfl, ?_⟩) (by assumption) ?_
            rotate_left
            first | (focus ((intro w hSw; (try dsimp only at hSw); go_simp); (try with_reducible rfl); done)) | fail
            try simp only [Act.put, List.getElem_toArray, List.getElem_cons_zero, List.getElem_cons_succ, List.setIfInBounds_toArray, List.set_cons_zero, List.set_cons_succ]
            refine wpAnyH_take (i := 3) (v := ?_) rfl (by kernel_rfl) (by kernel_rfl) (by kernel_rfl) (fun _ _ _ h => h) (Or.inl ⟨by rfl, ?_⟩) (by assumption) ?_
            rotate_left
            first | (focus ((intro w hSw; (try dsimp only at hSw); go_simp); (try with_reducible rfl); done)) | fail
            try simp only [Act.put, List.getElem_toArray, List.getElem_cons_zero, List.getElem_cons_succ, List.setIfInBounds_toArray, List.set_cons_zero, List.set_cons_succ]
            refine wpAnyH_take (i := 4) (v := undef) rfl (by kernel_rfl) (by kernel_rfl) (by kernel_rfl) (fun _ _ _ h => h) (Or.inr ⟨by rfl, rfl⟩) (by assumption) ?_
            try simp only [Act.put, List.getElem_toArray, List.getElem_cons_zero, List.getElem_cons_succ, List.setIfInBounds_toArray, List.set_cons_zero, List.set_cons_succ]
            refine wpAnyH_take (i := 5) (v := undef) rfl (by kernel_rfl) (by kernel_rfl) (by kernel_rfl) (fun _ _ _ h => h) (Or.inr ⟨by rfl, rfl⟩) (by assumption) ?_
            try simp only [Act.put, List.getElem_toArray, List.getElem_cons_zero, List.getElem_cons_succ, List.setIfInBounds_toArray, List.set_cons_zero, List.set_cons_succ]
            refine wpAnyH_take (i := 6) (v := undef) rfl (by kernel_rfl) (by kernel_rfl) (by kernel_rfl) (fun _ _ _ h => h) (Or.inr ⟨by rfl, rfl⟩) (by assumption) ?_
            try simp only [Act.put, List.getElem_toArray, List.getElem_cons_zero, List.getElem_cons_succ, List.setIfInBounds_toArray, List.set_cons_zero, List.set_cons_succ]
            refine wpAnyH_take (i := 7) (v := undef) rfl (by kernel_rfl) (by kernel_rfl) (by kernel_rfl) (fun _ _ _ h => h) (Or.inr ⟨by rfl, rfl⟩) (by assumption) ?_
            try simp only [Act.put, List.getElem_toArray, List.getElem_cons_zero, List.getElem_cons_succ, List.setIfInBounds_toArray, List.set_cons_zero, List.set_cons_succ]
            refine wpAnyH_take (i := 8) (v := undef) rfl (by kernel_rfl) (by kernel_rfl) (by kernel_rfl) (fun _ _ _ h => h) (Or.inr ⟨by rfl, rfl⟩) (by assumption) ?_
            try simp only [Act.put, List.getElem_toArray, List.getElem_cons_zero, List.getElem_cons_succ, List.setIfInBounds_toArray, List.set_cons_zero, List.set_cons_succ]
            refine wpAnyH_take (i := 9) (v := undef) rfl (by kernel_rfl) (by kernel_rfl) (by kernel_rfl) (fun _ _ _ h => h) (Or.inr ⟨by rfl, rfl⟩) (by assumption) ?_
            try simp only [Act.put, List.getElem_toArray, List.getElem_cons_zero, List.getElem_cons_succ, List.setIfInBounds_toArray, List.set_cons_zero, List.set_cons_succ]
            refine wpAnyH_take (i := 10) (v := undef) rfl (by kernel_rfl) (by kernel_rfl) (by kernel_rfl) (fun _ _ _ h => h) (Or.inr ⟨by rfl, rfl⟩) (by assumption) ?_
            try simp only [Act.put, List.getElem_toArray, List.getElem_cons_zero, List.getElem_cons_succ, List.setIfInBounds_toArray, List.set_cons_zero, List.set_cons_succ]
            refine wpAnyH_take (i := 11) (v := undef) rfl (by kernel_rfl) (by kernel_rfl) (by kernel_rfl) (fun _ _ _ h => h) (Or.inr ⟨by rfl, rfl⟩) (by assumption) ?_
            try simp only [Act.put, List.getElem_toArray, List.getElem_cons_zero, List.getElem_cons_succ, List.setIfInBounds_toArray, List.set_cons_zero, List.set_cons_succ]
            refine wpAnyH_take (i := 12) (v := undef) rfl (by kernel_rfl) (by kernel_rfl) (by kernel_rfl) (fun _ _ _ h => h) (Or.inr ⟨by rfl, rfl⟩) (by assumption) ?_
            try simp only [Act.put, List.getElem_toArray, List.getElem_cons_zero, List.getElem_cons_succ, List.setIfInBounds_toArray, List.set_cons_zero, List.set_cons_succ]
            refine wpAnyH_take (i := 13) (v := undef) rfl (by kernel_rfl) (by kernel_rfl) (by kernel_rfl) (fun _ _ _ h => h) (Or.inr ⟨by rfl, rfl⟩) (by assumption) ?_
            try simp only [Act.put, List.getElem_toArray, List.getElem_cons_zero, List.getElem_cons_succ, List.setIfInBounds_toArray, List.set_cons_zero, List.set_cons_succ]
            refine wpAnyH_take (i := 14) (v := undef) rfl (by kernel_rfl) (by kernel_rfl) (by kernel_rfl) (fun _ _ _ h => h) (Or.inr ⟨by rfl, rfl⟩) (by assumption) ?_
            try simp only [Act.put, List.getElem_toArray, List.getElem_cons_zero, List.getElem_cons_succ, List.setIfInBounds_toArray, List.set_cons_zero, List.set_cons_succ]
            refine wpAnyH_take (i := 15) (v := undef) rfl (by kernel_rfl) (by kernel_rfl) (by kernel_rfl) (fun _ _ _ h => h) (Or.inr ⟨by rfl, rfl⟩) (by assumption) ?_
            try simp only [Act.put, List.getElem_toArray, List.getElem_cons_zero, List.getElem_cons_succ, List.setIfInBounds_toArray, List.set_cons_zero, List.set_cons_succ]
            refine wpAnyH_take (i := 16) (v := undef) rfl (by kernel_rfl) (by kernel_rfl) (by kernel_rfl) (fun _ _ _ h => h) (Or.inr ⟨by rfl, rfl⟩) (by assumption) ?_
            try simp only [Act.put, List.getElem_toArray, List.getElem_cons_zero, List.getElem_cons_succ, List.setIfInBounds_toArray, List.set_cons_zero, List.set_cons_succ]
            refine wpAnyH_take (i := 17) (v := ?_) rfl (by kernel_rfl) (by kernel_rfl) (by kernel_rfl) (fun _ _ _ h => h) (Or.inl ⟨by rfl, ?_⟩) (by assumption) ?_
            rotate_left
            first | (focus ((intro w hSw; (try dsimp only at hSw); go_simp); (try with_reducible rfl); done)) | fail
            try simp only [Act.put, List.getElem_toArray, List.getElem_cons_zero, List.getElem_cons_succ, List.setIfInBounds_toArray, List.set_cons_zero, List.set_cons_succ]
            refine wpAnyH_take (i := 18) (v := ?_) rfl (by kernel_rfl) (by kernel_rfl) (by kernel_rfl) (fun _ _ _ h => h) (Or.inl ⟨by rfl, ?_⟩) (by assumption) ?_
            rotate_left
            first | (focus ((intro w hSw; (try dsimp only at hSw); go_simp); (try with_reducible rfl); done)) | fail
            try simp only [Act.put, List.getElem_toArray, List.getElem_cons_zero, List.getElem_cons_succ, List.setIfInBounds_toArray, List.set_cons_zero, List.set_cons_succ]
            refine wpAnyH_take (i := 19) (v := undef) rfl (by kernel_rfl) (by kernel_rfl) (by kernel_rfl) (fun _ _ _ h => h) (Or.inr ⟨by rfl, rfl⟩) (by assumption) ?_
            try simp only [Act.put, List.getElem_toArray, List.getElem_cons_zero, List.getElem_cons_succ, List.setIfInBounds_toArray, List.set_cons_zero, List.set_cons_succ]
            refine wpAnyH_take (i := 20) (v := undef) rfl (by kernel_rfl) (by kernel_rfl) (by kernel_rfl) (fun _ _ _ h => h) (Or.inr ⟨by rfl, rfl⟩) (by assumption) ?_
            try simp only [Act.put, List.getElem_toArray, List.getElem_cons_zero, List.getElem_cons_succ, List.setIfInBounds_toArray, List.set_cons_zero, List.set_cons_succ]
            refine wpAnyH_take (i := 21) (v := undef) rfl (by kernel_rfl) (by kernel_rfl) (by kernel_rfl) (fun _ _ _ h => h) (Or.inr ⟨by rfl, rfl⟩) (by assumption) ?_
            try simp only [Act.put, List.getElem_toArray, List.getElem_cons_zero, List.getElem_cons_succ, List.setIfInBounds_toArray, List.set_cons_zero, List.set_cons_succ]
            refine wpAnyH_take (i := 22) (v := undef) rfl (by kernel_rfl) (by kernel_rfl) (by kernel_rfl) (fun _ _ _ h => h) (Or.inr ⟨by rfl, rfl⟩) (by assumption) ?_
            try simp only [Act.put, List.getElem_toArray, List.getElem_cons_zero, List.getElem_cons_succ, List.setIfInBounds_toArray, List.set_cons_zero, List.set_cons_succ]
            refine wpAnyH_take (i := 23) (v := undef) rfl (by kernel_rfl) (by kernel_rfl) (by kernel_rfl) (fun _ _ _ h => h) (Or.inr ⟨by rfl, rfl⟩) (by assumption) ?_
            try simp only [Act.put, List.getElem_toArray, List.getElem_cons_zero, List.getElem_cons_succ, List.setIfInBounds_toArray, List.set_cons_zero, List.set_cons_succ]
            refine wpAnyH_take (i := 24) (v := undef) rfl (by kernel_rfl) (by kernel_rfl) (by kernel_rfl) (fun _ _ _ h => h) (Or.inr ⟨by rfl, rfl⟩) (by assumption) ?_
            try simp only [Act.put, List.getElem_toArray, List.getElem_cons_zero, List.getElem_cons_succ, List.setIfInBounds_toArray, List.set_cons_zero, List.set_cons_succ]
            refine wpAnyH_take (i := 25) (v := undef) rfl (by kernel_rfl) (by kernel_rfl) (by kernel_rfl) (fun _ _ _ h => h) (Or.inr ⟨by rfl, rfl⟩) (by assumption) ?_
            try simp only [Act.put, List.getElem_toArray, List.getElem_cons_zero, List.getElem_cons_succ, List.setIfInBounds_toArray, List.set_cons_zero, List.set_cons_succ]
            refine wpAnyH_take (i := 26) (v := undef) rfl (by kernel_rfl) (by kernel_rfl) (by kernel_rfl) (fun _ _ _ h => h) (Or.inr ⟨by rfl, rfl⟩) (by assumption) ?_
            try simp only [Act.put, List.getElem_toArray, List.getElem_cons_zero, List.getElem_cons_succ, List.setIfInBounds_toArray, List.set_cons_zero, List.set_cons_succ]
            refine wpAnyH_take (i := 27) (v := undef) rfl (by kernel_rfl) (by kernel_rfl) (by kernel_rfl) (fun _ _ _ h => h) (Or.inr ⟨by rfl, rfl⟩) (by assumption) ?_
            try simp only [Act.put, List.getElem_toArray, List.getElem_cons_zero, List.getElem_cons_succ, List.setIfInBounds_toArray, List.set_cons_zero, List.set_cons_succ]
            refine wpAnyH_take (i := 28) (v := undef) rfl (by kernel_rfl) (by kernel_rfl) (by kernel_rfl) (fun _ _ _ h => h) (Or.inr ⟨by rfl, rfl⟩) (by assumption) ?_
            try simp only [Act.put, List.getElem_toArray, List.getElem_cons_zero, List.getElem_cons_succ, List.setIfInBounds_toArray, List.set_cons_zero, List.set_cons_succ]
            refine wpAnyH_take (i := 29) (v := undef) rfl (by kernel_rfl) (by kernel_rfl) (by kernel_rfl) (fun _ _ _ h => h) (Or.inr ⟨by rfl, rfl⟩) (by assumption) ?_
            try simp only [Act.put, List.getElem_toArray, List.getElem_cons_zero, List.getElem_cons_succ, List.setIfInBounds_toArray, List.set_cons_zero, List.set_cons_succ]
            refine wpAnyH_take (i := 30) (v := undef) rfl (by kernel_rfl) (by kernel_rfl) (by kernel_rfl) (fun _ _ _ h => h) (Or.inr ⟨by rfl, rfl⟩) (by assumption) ?_
            try simp only [Act.put, List.getElem_toArray, List.getElem_cons_zero, List.getElem_cons_succ, List.setIfInBounds_toArray, List.set_cons_zero, List.set_cons_succ]
            refine wpAnyH_take (i := 31) (v := undef) rfl (by kernel_rfl) (by kernel_rfl) (by kernel_rfl) (fun _ _ _ h => h) (Or.inr ⟨by rfl, rfl⟩) (by assumption) ?_
            try simp only [Act.put, List.getElem_toArray, List.getElem_cons_zero, List.getElem_cons_succ, List.setIfInBounds_toArray, List.set_cons_zero, List.set_cons_succ]
            refine wpAnyH_take (i := 32) (v := undef) rfl (by kernel_rfl) (by kernel_rfl) (by kernel_rfl) (fun _ _ _ h => h) (Or.inr ⟨by rfl, rfl⟩) (by assumption) ?_
            try simp only [Act.put, List.getElem_toArray, List.getElem_cons_zero, List.getElem_cons_succ, List.setIfInBounds_toArray, List.set_cons_zero, List.set_cons_succ]
            refine wpAnyH_take (i := 33) (v := ?_) rfl (by kernel_rfl) (by kernel_rfl) (by kernel_rfl) (fun _ _ _ h => h) (Or.inl ⟨by rfl, ?_⟩) (by assumption) ?_
            rotate_left
            first | (focus ((intro w hSw; (try dsimp only at hSw); go_simp); (try with_reducible rfl); done)) | fail
            try simp only [Act.put, List.getElem_toArray, List.getElem_cons_zero, List.getElem_cons_succ, List.setIfInBounds_toArray, List.set_cons_zero, List.set_cons_succ]
            refine wpAnyH_done (by kernel_rfl) ?_ _
            go_wp2
            go_ret
            exact ⟨by rw [HV2.out, ovG_no HXj.out HX.out]; rfl, HEV1.out.2.2.1.drew.trans (below_of_le B5.out HEV1.out.2.2.2)⟩
          | true =>
            rw [hr] at CR
            have hr' : rightD ((x1, x2), x3) = true := hr
            clear hr
            by_cases hq : x1 = o1 ∧ x2 = o2
            · have hEq : ∀ w : World, (binOp .eql 48 (.agg #[.int .i64 x1, .int .i64 x2]) (.agg #[.int .i64 o1, .int .i64 o2])).run Tryz.prog w = .ok (.bool true) w := fun w => by have h := eql_act x1 x2 o1 o2 w; unfold actV at h; rw [decide_eq_true hq] at h; exact h
              have hq1 : decide (((x1, x2) : Ac) = (o1, o2)) = true := decide_eq_true (Prod.ext hq.1 hq.2)
              clear hq
              by_cases hs : o3 ≤ x3
              · have hs1 : decide (o3 ≤ x3) = true := decide_eq_true hs
                have HX := Lib.hid (show okP ((o1, o2), o3) (prevAt none L 0) ((x1, x2), x3) = false from by rw [HPV.out]; unfold okP; rw [hr', hq1, hs1]; rfl)
                clear hq1 hr'
                refine wp_region_held_drew (S := (fun W => W.cell? ⟨D, 0, none⟩ = some (.int .i64 x1) ∧ W.cell? ⟨D, 1, none⟩ = some (.int .i64 x2) ∧ W.cell? ⟨D, 2, none⟩ = some (.int .i64 x3) ∧ W.cell? ⟨w.heap.size, 0, none⟩ = some (.int .i64 o1) ∧ W.cell? ⟨w.heap.size, 1, none⟩ = some (.int .i64 o2) ∧ W.cell? ⟨w.heap.size, 2, none⟩ = some (.int .i64 o3) ∧ W.cell? ⟨w.heap.size, 18, none⟩ = some (.slice (some ⟨b0, o0, none⟩) n c))) (by kernel_rfl) ?_ (fun hHeld => ?_)
                · (try dsimp only); exact HS.out
                refine wpAnyH_take (i := 0) (v := ?_) rfl (by kernel_rfl) (by kernel_rfl) (by kernel_rfl) (fun _ _ _ h => h) (Or.inl ⟨by rfl, ?_⟩) (by assumption) ?_
                rotate_left
                first | (focus ((intro w hSw; (try dsimp only at hSw); go_simp); (try with_reducible rfl); done)) | fail
                try simp only [Act.put, List.getElem_toArray, List.getElem_cons_zero, List.setIfInBounds_toArray, List.set_cons_zero, List.set_cons_succ]
                refine wpAnyH_ready (rs := [1]) (by kernel_rfl) (by simp) ?_
                refine AllReadyH.cons rfl (fun K hK => ?_) AllReadyH.nil
                go_simp
                refine (CR.out _).mono ?_; rintro r w5 ⟨rfl, b5⟩
                go_wp2_with fail
                refine hK.out _ _ ?_ (fun hHeld => ?_)
                · (try dsimp only); exact ⟨((below_of_le b5 hN0).cell hDl).trans hHeld.1, ((below_of_le b5 hN0).cell hDl).trans hHeld.2.1, ((below_of_le b5 hN0).cell hDl).trans hHeld.2.2.1, ((below_of_le b5 hN0).cell hEl).trans hHeld.2.2.2.1, ((below_of_le b5 hN0).cell hEl).trans hHeld.2.2.2.2.1, ((below_of_le b5 hN0).cell hEl).trans hHeld.2.2.2.2.2.1, ((below_of_le b5 hN0).cell hEl).trans hHeld.2.2.2.2.2.2⟩
                clear hK K
                try simp only [Act.put, List.getElem_toArray, List.getElem_cons_zero, List.getElem_cons_succ, List.setIfInBounds_toArray, List.set_cons_zero, List.set_cons_succ]
                have B5 := Lib.hid (below_of_le b5 hN0)
                clear b5
                refine wpAnyH_take (i := 2) (v := ?_) rfl (by kernel_rfl) (by kernel_rfl) (by kernel_rfl) (fun _ _ _ h => h) (Or.inl ⟨by rfl, ?_⟩) (by assumption) ?_
                rotate_left
                first | (focus ((intro w hSw; (try dsimp only at hSw); go_simp); (try with_reducible rfl); done)) | fail
                try simp only [Act.put, List.getElem_toArray, List.getElem_cons_zero, List.getElem_cons_succ, List.setIfInBounds_toArray, List.set_cons_zero, List.set_cons_succ]
                refine wpAnyH_take (i := 3) (v := ?_) rfl (by kernel_rfl) (by kernel_rfl) (by kernel_rfl) (fun _ _ _ h => h) (Or.inl ⟨by rfl, ?_⟩) (by assumption) ?_
                rotate_left
                first | (focus ((intro w hSw; (try dsimp only at hSw); go_simp); (try with_reducible rfl); done)) | fail
                try simp only [Act.put, List.getElem_toArray, List.getElem_cons_zero, List.getElem_cons_succ, List.setIfInBounds_toArray, List.set_cons_zero, List.set_cons_succ]
                refine wpAnyH_take (i := 4) (v := ?_) rfl (by kernel_rfl) (by kernel_rfl) (by kernel_rfl) (fun _ _ _ h => h) (Or.inl ⟨by rfl, ?_⟩) (by assumption) ?_
                rotate_left
                first | (focus ((intro w hSw; (try dsimp only at hSw); go_simp); (try with_reducible rfl); done)) | fail
                try simp only [Act.put, List.getElem_toArray, List.getElem_cons_zero, List.getElem_cons_succ, List.setIfInBounds_toArray, List.set_cons_zero, List.set_cons_succ]
                refine wpAnyH_take (i := 5) (v := ?_) rfl (by kernel_rfl) (by kernel_rfl) (by kernel_rfl) (fun _ _ _ h => h) (Or.inl ⟨by rfl, ?_⟩) (by assumption) ?_
                rotate_left
                first | (focus ((intro w hSw; (try dsimp only at hSw); go_simp); (try with_reducible rfl); done)) | fail
                try simp only [Act.put, List.getElem_toArray, List.getElem_cons_zero, List.getElem_cons_succ, List.setIfInBounds_toArray, List.set_cons_zero, List.set_cons_succ]
                refine wpAnyH_take (i := 6) (v := ?_) rfl (by kernel_rfl) (by kernel_rfl) (by kernel_rfl) (fun _ _ _ h => h) (Or.inl ⟨by rfl, ?_⟩) (by assumption) ?_
                rotate_left
                first | (focus ((intro w hSw; (try dsimp only at hSw); go_simp); (try with_reducible rfl); done)) | fail
                try simp only [Act.put, List.getElem_toArray, List.getElem_cons_zero, List.getElem_cons_succ, List.setIfInBounds_toArray, List.set_cons_zero, List.set_cons_succ]
                refine wpAnyH_take (i := 7) (v := undef) rfl (by kernel_rfl) (by kernel_rfl) (by kernel_rfl) (fun _ _ _ h => h) (Or.inr ⟨by rfl, rfl⟩) (by assumption) ?_
                try simp only [Act.put, List.getElem_toArray, List.getElem_cons_zero, List.getElem_cons_succ, List.setIfInBounds_toArray, List.set_cons_zero, List.set_cons_succ]
                refine wpAnyH_take (i := 8) (v := undef) rfl (by kernel_rfl) (by kernel_rfl) (by kernel_rfl) (fun _ _ _ h => h) (Or.inr ⟨by rfl, rfl⟩) (by assumption) ?_
                try simp only [Act.put, List.getElem_toArray, List.getElem_cons_zero, List.getElem_cons_succ, List.setIfInBounds_toArray, List.set_cons_zero, List.set_cons_succ]
                refine wpAnyH_take (i := 9) (v := undef) rfl (by kernel_rfl) (by kernel_rfl) (by kernel_rfl) (fun _ _ _ h => h) (Or.inr ⟨by rfl, rfl⟩) (by assumption) ?_
                try simp only [Act.put, List.getElem_toArray, List.getElem_cons_zero, List.getElem_cons_succ, List.setIfInBounds_toArray, List.set_cons_zero, List.set_cons_succ]
                refine wpAnyH_take (i := 10) (v := undef) rfl (by kernel_rfl) (by kernel_rfl) (by kernel_rfl) (fun _ _ _ h => h) (Or.inr ⟨by rfl, rfl⟩) (by assumption) ?_
                try simp only [Act.put, List.getElem_toArray, List.getElem_cons_zero, List.getElem_cons_succ, List.setIfInBounds_toArray, List.set_cons_zero, List.set_cons_succ]
                refine wpAnyH_take (i := 11) (v := undef) rfl (by kernel_rfl) (by kernel_rfl) (by kernel_rfl) (fun _ _ _ h => h) (Or.inr ⟨by rfl, rfl⟩) (by assumption) ?_
                try simp only [Act.put, List.getElem_toArray, List.getElem_cons_zero, List.getElem_cons_succ, List.setIfInBounds_toArray, List.set_cons_zero, List.set_cons_succ]
                refine wpAnyH_take (i := 12) (v := undef) rfl (by kernel_rfl) (by kernel_rfl) (by kernel_rfl) (fun _ _ _ h => h) (Or.inr ⟨by rfl, rfl⟩) (by assumption) ?_
                try simp only [Act.put, List.getElem_toArray, List.getElem_cons_zero, List.getElem_cons_succ, List.setIfInBounds_toArray, List.set_cons_zero, List.set_cons_succ]
                refine wpAnyH_take (i := 13) (v := undef) rfl (by kernel_rfl) (by kernel_rfl) (by kernel_rfl) (fun _ _ _ h => h) (Or.inr ⟨by rfl, rfl⟩) (by assumption) ?_
                try simp only [Act.put, List.getElem_toArray, List.getElem_cons_zero, List.getElem_cons_succ, List.setIfInBounds_toArray, List.set_cons_zero, List.set_cons_succ]
                refine wpAnyH_take (i := 14) (v := undef) rfl (by kernel_rfl) (by kernel_rfl) (by kernel_rfl) (fun _ _ _ h => h) (Or.inr ⟨by rfl, rfl⟩) (by assumption) ?_
                try simp only [Act.put, List.getElem_toArray, List.getElem_cons_zero, List.getElem_cons_succ, List.setIfInBounds_toArray, List.set_cons_zero, List.set_cons_succ]
                refine wpAnyH_take (i := 15) (v := undef) rfl (by kernel_rfl) (by kernel_rfl) (by kernel_rfl) (fun _ _ _ h => h) (Or.inr ⟨by rfl, rfl⟩) (by assumption) ?_
                try simp only [Act.put, List.getElem_toArray, List.getElem_cons_zero, List.getElem_cons_succ, List.setIfInBounds_toArray, List.set_cons_zero, List.set_cons_succ]
                refine wpAnyH_take (i := 16) (v := ?_) rfl (by kernel_rfl) (by kernel_rfl) (by kernel_rfl) (fun _ _ _ h => h) (Or.inl ⟨by rfl, ?_⟩) (by assumption) ?_
                rotate_left
                first | (focus ((intro w hSw; (try dsimp only at hSw); go_simp); (try with_reducible rfl); done)) | fail
                try simp only [Act.put, List.getElem_toArray, List.getElem_cons_zero, List.getElem_cons_succ, List.setIfInBounds_toArray, List.set_cons_zero, List.set_cons_succ]
                refine wpAnyH_take (i := 17) (v := ?_) rfl (by kernel_rfl) (by kernel_rfl) (by kernel_rfl) (fun _ _ _ h => h) (Or.inl ⟨by rfl, ?_⟩) (by assumption) ?_
                rotate_left
                first | (focus ((intro w hSw; (try dsimp only at hSw); go_simp); (try with_reducible rfl); done)) | fail
                try simp only [Act.put, List.getElem_toArray, List.getElem_cons_zero, List.getElem_cons_succ, List.setIfInBounds_toArray, List.set_cons_zero, List.set_cons_succ]
                refine wpAnyH_take (i := 18) (v := ?_) rfl (by kernel_rfl) (by kernel_rfl) (by kernel_rfl) (fun _ _ _ h => h) (Or.inl ⟨by rfl, ?_⟩) (by assumption) ?_
                rotate_left
                first | (focus ((intro w hSw; (try dsimp only at hSw); go_simp); (try with_reducible rfl); done)) | fail
                try simp only [Act.put, List.getElem_toArray, List.getElem_cons_zero, List.getElem_cons_succ, List.setIfInBounds_toArray, List.set_cons_zero, List.set_cons_succ]
                refine wpAnyH_take (i := 19) (v := ?_) rfl (by kernel_rfl) (by kernel_rfl) (by kernel_rfl) (fun _ _ _ h => h) (Or.inl ⟨by rfl, ?_⟩) (by assumption) ?_
                rotate_left
                first | (focus ((intro w hSw; (try dsimp only at hSw); go_simp); (try with_reducible rfl); done)) | fail
                try simp only [Act.put, List.getElem_toArray, List.getElem_cons_zero, List.getElem_cons_succ, List.setIfInBounds_toArray, List.set_cons_zero, List.set_cons_succ]
                refine wpAnyH_take (i := 20) (v := ?_) rfl (by kernel_rfl) (by kernel_rfl) (by kernel_rfl) (fun _ _ _ h => h) (Or.inl ⟨by rfl, ?_⟩) (by assumption) ?_
                rotate_left
                first | (focus ((intro w hSw; (try dsimp only at hSw); go_simp); (try with_reducible rfl); done)) | fail
                try simp only [Act.put, List.getElem_toArray, List.getElem_cons_zero, List.getElem_cons_succ, List.setIfInBounds_toArray, List.set_cons_zero, List.set_cons_succ]
                refine wpAnyH_take (i := 21) (v := ?_) rfl (by kernel_rfl) (by kernel_rfl) (by kernel_rfl) (fun _ _ _ h => h) (Or.inl ⟨by rfl, ?_⟩) (by assumption) ?_
                rotate_left
                first | (focus ((intro w hSw; (try dsimp only at hSw); go_simp); (try with_reducible rfl); done)) | fail
                try simp only [Act.put, List.getElem_toArray, List.getElem_cons_zero, List.getElem_cons_succ, List.setIfInBounds_toArray, List.set_cons_zero, List.set_cons_succ]
                refine wpAnyH_take (i := 22) (v := ?_) rfl (by kernel_rfl) (by kernel_rfl) (by kernel_rfl) (fun _ _ _ h => h) (Or.inl ⟨by rfl, ?_⟩) (by assumption) ?_
                rotate_left
                first | (focus ((intro w hSw; (try dsimp only at hSw); go_simp); (try with_reducible rfl); done)) | fail
                try simp only [Act.put, List.getElem_toArray, List.getElem_cons_zero, List.getElem_cons_succ, List.setIfInBounds_toArray, List.set_cons_zero, List.set_cons_succ]
                refine wpAnyH_take (i := 23) (v := ?_) rfl (by kernel_rfl) (by kernel_rfl) (by kernel_rfl) (fun _ _ _ h => h) (Or.inl ⟨by rfl, ?_⟩) (by assumption) ?_
                rotate_left
                first | (focus ((intro w hSw; (try dsimp only at hSw); go_simp); (try with_reducible rfl); done)) | fail
                try simp only [Act.put, List.getElem_toArray, List.getElem_cons_zero, List.getElem_cons_succ, List.setIfInBounds_toArray, List.set_cons_zero, List.set_cons_succ]
                refine wpAnyH_take (i := 24) (v := ?_) rfl (by kernel_rfl) (by kernel_rfl) (by kernel_rfl) (fun _ _ _ h => h) (Or.inl ⟨by rfl, ?_⟩) (by assumption) ?_
                rotate_left
                first | (focus ((intro w hSw; (try dsimp only at hSw); go_simp); (try with_reducible rfl); done)) | fail
                try simp only [Act.put, List.getElem_toArray, List.getElem_cons_zero, List.getElem_cons_succ, List.setIfInBounds_toArray, List.set_cons_zero, List.set_cons_succ]
                refine wpAnyH_take (i := 25) (v := ?_) rfl (by kernel_rfl) (by kernel_rfl) (by kernel_rfl) (fun _ _ _ h => h) (Or.inl ⟨by rfl, ?_⟩) (by assumption) ?_
                rotate_left
                first | (focus ((intro w hSw; (try dsimp only at hSw); go_simp); (try with_reducible rfl); done)) | fail
                try simp only [Act.put, List.getElem_toArray, List.getElem_cons_zero, List.getElem_cons_succ, List.setIfInBounds_toArray, List.set_cons_zero, List.set_cons_succ]
                refine wpAnyH_take (i := 26) (v := ?_) rfl (by kernel_rfl) (by kernel_rfl) (by kernel_rfl) (fun _ _ _ h => h) (Or.inl ⟨by rfl, ?_⟩) (by assumption) ?_
                rotate_left
                first | (focus ((intro w hSw; (try dsimp only at hSw); go_simp); (try with_reducible rfl); done)) | fail
                try simp only [Act.put, List.getElem_toArray, List.getElem_cons_zero, List.getElem_cons_succ, List.setIfInBounds_toArray, List.set_cons_zero, List.set_cons_succ]
                refine wpAnyH_take (i := 27) (v := ?_) rfl (by kernel_rfl) (by kernel_rfl) (by kernel_rfl) (fun _ _ _ h => h) (Or.inl ⟨by rfl, ?_⟩) (by assumption) ?_
                rotate_left
                first | (focus ((intro w hSw; (try dsimp only at hSw); go_simp); (try with_reducible rfl); done)) | fail
                try simp only [Act.put, List.getElem_toArray, List.getElem_cons_zero, List.getElem_cons_succ, List.setIfInBounds_toArray, List.set_cons_zero, List.set_cons_succ]
                refine wpAnyH_take (i := 28) (v := ?_) rfl (by kernel_rfl) (by kernel_rfl) (by kernel_rfl) (fun _ _ _ h => h) (Or.inl ⟨by rfl, ?_⟩) (by assumption) ?_
                rotate_left
                first | (focus ((intro w hSw; (try dsimp only at hSw); go_simp); (try with_reducible rfl); done)) | fail
                try simp only [Act.put, List.getElem_toArray, List.getElem_cons_zero, List.getElem_cons_succ, List.setIfInBounds_toArray, List.set_cons_zero, List.set_cons_succ]
                refine wpAnyH_take (i := 29) (v := ?_) rfl (by kernel_rfl) (by kernel_rfl) (by kernel_rfl) (fun _ _ _ h => h) (Or.inl ⟨by rfl, ?_⟩) (by assumption) ?_
                rotate_left
                first | (focus ((intro w hSw; (try dsimp only at hSw); go_simp); (try with_reducible rfl); done)) | fail
                try simp only [Act.put, List.getElem_toArray, List.getElem_cons_zero, List.getElem_cons_succ, List.setIfInBounds_toArray, List.set_cons_zero, List.set_cons_succ]
                refine wpAnyH_take (i := 30) (v := ?_) rfl (by kernel_rfl) (by kernel_rfl) (by kernel_rfl) (fun _ _ _ h => h) (Or.inl ⟨by rfl, ?_⟩) (by assumption) ?_
                rotate_left
                first | (focus ((intro w hSw; (try dsimp only at hSw); go_simp); (try with_reducible rfl); done)) | fail
                try simp only [Act.put, List.getElem_toArray, List.getElem_cons_zero, List.getElem_cons_succ, List.setIfInBounds_toArray, List.set_cons_zero, List.set_cons_succ]
                refine wpAnyH_take (i := 31) (v := ?_) rfl (by kernel_rfl) (by kernel_rfl) (by kernel_rfl) (fun _ _ _ h => h) (Or.inl ⟨by rfl, ?_⟩) (by assumption) ?_
                rotate_left
                first | (focus ((intro w hSw; (try dsimp only at hSw); go_simp); (try with_reducible rfl); done)) | fail
                try simp only [Act.put, List.getElem_toArray, List.getElem_cons_zero, List.getElem_cons_succ, List.setIfInBounds_toArray, List.set_cons_zero, List.set_cons_succ]
                refine wpAnyH_take (i := 32) (v := ?_) rfl (by kernel_rfl) (by kernel_rfl) (by kernel_rfl) (fun _ _ _ h => h) (Or.inl ⟨by rfl, ?_⟩) (by assumption) ?_
                rotate_left
                first | (focus ((intro w hSw; (try dsimp only at hSw); go_simp); (try with_reducible rfl); done)) | fail
                try simp only [Act.put, List.getElem_toArray, List.getElem_cons_zero, List.getElem_cons_succ, List.setIfInBounds_toArray, List.set_cons_zero, List.set_cons_succ]
                refine wpAnyH_take (i := 33) (v := ?_) rfl (by kernel_rfl) (by kernel_rfl) (by kernel_rfl) (fun _ _ _ h => h) (Or.inl ⟨by rfl, ?_⟩) (by assumption) ?_
                rotate_left
                first | (focus ((intro w hSw; (try dsimp only at hSw); go_simp); (try with_reducible rfl); done)) | fail
                try simp only [Act.put, List.getElem_toArray, List.getElem_cons_zero, List.getElem_cons_succ, List.setIfInBounds_toArray, List.set_cons_zero, List.set_cons_succ]
                refine wpAnyH_done (by kernel_rfl) ?_ _
                go_wp2
                go_ret
                exact ⟨by rw [HV2.out, ovG_no HXj.out HX.out]; rfl, HEV1.out.2.2.1.drew.trans (below_of_le B5.out HEV1.out.2.2.2)⟩
              · have hs1 : decide (o3 ≤ x3) = false := decide_eq_false hs
                have HX := Lib.hid (show okP ((o1, o2), o3) (prevAt none L 0) ((x1, x2), x3) = true from by rw [HPV.out]; unfold okP; rw [hr', hq1, hs1]; rfl)
                clear hq1 hr'
                refine wp_region_held_drew (S := (fun W => W.cell? ⟨D, 0, none⟩ = some (.int .i64 x1) ∧ W.cell? ⟨D, 1, none⟩ = some (.int .i64 x2) ∧ W.cell? ⟨D, 2, none⟩ = some (.int .i64 x3) ∧ W.cell? ⟨w.heap.size, 0, none⟩ = some (.int .i64 o1) ∧ W.cell? ⟨w.heap.size, 1, none⟩ = some (.int .i64 o2) ∧ W.cell? ⟨w.heap.size, 2, none⟩ = some (.int .i64 o3) ∧ W.cell? ⟨w.heap.size, 18, none⟩ = some (.slice (some ⟨b0, o0, none⟩) n c))) (by kernel_rfl) ?_ (fun hHeld => ?_)
                · (try dsimp only); exact HS.out
                refine wpAnyH_take (i := 0) (v := ?_) rfl (by kernel_rfl) (by kernel_rfl) (by kernel_rfl) (fun _ _ _ h => h) (Or.inl ⟨by rfl, ?_⟩) (by assumption) ?_
                rotate_left
                first | (focus ((intro w hSw; (try dsimp only at hSw); go_simp); (try with_reducible rfl); done)) | fail
                try simp only [Act.put, List.getElem_toArray, List.getElem_cons_zero, List.setIfInBounds_toArray, List.set_cons_zero, List.set_cons_succ]
                refine wpAnyH_ready (rs := [1]) (by kernel_rfl) (by simp) ?_
                refine AllReadyH.cons rfl (fun K hK => ?_) AllReadyH.nil
                go_simp
                refine (CR.out _).mono ?_; rintro r w5 ⟨rfl, b5⟩
                go_wp2_with fail
                refine hK.out _ _ ?_ (fun hHeld => ?_)
                · (try dsimp only); exact ⟨((below_of_le b5 hN0).cell hDl).trans hHeld.1, ((below_of_le b5 hN0).cell hDl).trans hHeld.2.1, ((below_of_le b5 hN0).cell hDl).trans hHeld.2.2.1, ((below_of_le b5 hN0).cell hEl).trans hHeld.2.2.2.1, ((below_of_le b5 hN0).cell hEl).trans hHeld.2.2.2.2.1, ((below_of_le b5 hN0).cell hEl).trans hHeld.2.2.2.2.2.1, ((below_of_le b5 hN0).cell hEl).trans hHeld.2.2.2.2.2.2⟩
                clear hK K
                try simp only [Act.put, List.getElem_toArray, List.getElem_cons_zero, List.getElem_cons_succ, List.setIfInBounds_toArray, List.set_cons_zero, List.set_cons_succ]
                have B5 := Lib.hid (below_of_le b5 hN0)
                clear b5
                refine wpAnyH_take (i := 2) (v := ?_) rfl (by kernel_rfl) (by kernel_rfl) (by kernel_rfl) (fun _ _ _ h => h) (Or.inl ⟨by rfl, ?_⟩) (by assumption) ?_
                rotate_left
                first | (focus ((intro w hSw; (try dsimp only at hSw); go_simp); (try with_reducible rfl); done)) | fail
                try simp only [Act.put, List.getElem_toArray, List.getElem_cons_zero, List.getElem_cons_succ, List.setIfInBounds_toArray, List.set_cons_zero, List.set_cons_succ]
                refine wpAnyH_take (i := 3) (v := ?_) rfl (by kernel_rfl) (by kernel_rfl) (by kernel_rfl) (fun _ _ _ h => h) (Or.inl ⟨by rfl, ?_⟩) (by assumption) ?_
                rotate_left
                first | (focus ((intro w hSw; (try dsimp only at hSw); go_simp); (try with_reducible rfl); done)) | fail
                try simp only [Act.put, List.getElem_toArray, List.getElem_cons_zero, List.getElem_cons_succ, List.setIfInBounds_toArray, List.set_cons_zero, List.set_cons_succ]
                refine wpAnyH_take (i := 4) (v := ?_) rfl (by kernel_rfl) (by kernel_rfl) (by kernel_rfl) (fun _ _ _ h => h) (Or.inl ⟨by rfl, ?_⟩) (by assumption) ?_
                rotate_left
                first | (focus ((intro w hSw; (try dsimp only at hSw); go_simp); (try with_reducible rfl); done)) | fail
                try simp only [Act.put, List.getElem_toArray, List.getElem_cons_zero, List.getElem_cons_succ, List.setIfInBounds_toArray, List.set_cons_zero, List.set_cons_succ]
                refine wpAnyH_take (i := 5) (v := ?_) rfl (by kernel_rfl) (by kernel_rfl) (by kernel_rfl) (fun _ _ _ h => h) (Or.inl ⟨by rfl, ?_⟩) (by assumption) ?_
                rotate_left
                first | (focus ((intro w hSw; (try dsimp only at hSw); go_simp); (try with_reducible rfl); done)) | fail
                try simp only [Act.put, List.getElem_toArray, List.getElem_cons_zero, List.getElem_cons_succ, List.setIfInBounds_toArray, List.set_cons_zero, List.set_cons_succ]
                refine wpAnyH_take (i := 6) (v := ?_) rfl (by kernel_rfl) (by kernel_rfl) (by kernel_rfl) (fun _ _ _ h => h) (Or.inl ⟨by rfl, ?_⟩) (by assumption) ?_
                rotate_left
                first | (focus ((intro w hSw; (try dsimp only at hSw); go_simp); (try with_reducible rfl); done)) | fail
                try simp only [Act.put, List.getElem_toArray, List.getElem_cons_zero, List.getElem_cons_succ, List.setIfInBounds_toArray, List.set_cons_zero, List.set_cons_succ]
                refine wpAnyH_take (i := 7) (v := undef) rfl (by kernel_rfl) (by kernel_rfl) (by kernel_rfl) (fun _ _ _ h => h) (Or.inr ⟨by rfl, rfl⟩) (by assumption) ?_
                try simp only [Act.put, List.getElem_toArray, List.getElem_cons_zero, List.getElem_cons_succ, List.setIfInBounds_toArray, List.set_cons_zero, List.set_cons_succ]
                refine wpAnyH_take (i := 8) (v := undef) rfl (by kernel_rfl) (by kernel_rfl) (by kernel_rfl) (fun _ _ _ h => h) (Or.inr ⟨by rfl, rfl⟩) (by assumption) ?_
                try simp only [Act.put, List.getElem_toArray, List.getElem_cons_zero, List.getElem_cons_succ, List.setIfInBounds_toArray, List.set_cons_zero, List.set_cons_succ]
                refine wpAnyH_take (i := 9) (v := undef) rfl (by kernel_rfl) (by kernel_rfl) (by kernel_rfl) (fun _ _ _ h => h) (Or.inr ⟨by rfl, rfl⟩) (by assumption) ?_
                try simp only [Act.put, List.getElem_toArray, List.getElem_cons_zero, List.getElem_cons_succ, List.setIfInBounds_toArray, List.set_cons_zero, List.set_cons_succ]
                refine wpAnyH_take (i := 10) (v := undef) rfl (by kernel_rfl) (by kernel_rfl) (by kernel_rfl) (fun _ _ _ h => h) (Or.inr ⟨by rfl, rfl⟩) (by assumption) ?_
                try simp only [Act.put, List.getElem_toArray, List.getElem_cons_zero, List.getElem_cons_succ, List.setIfInBounds_toArray, List.set_cons_zero, List.set_cons_succ]
                refine wpAnyH_take (i := 11) (v := undef) rfl (by kernel_rfl) (by kernel_rfl) (by kernel_rfl) (fun _ _ _ h => h) (Or.inr ⟨by rfl, rfl⟩) (by assumption) ?_
                try simp only [Act.put, List.getElem_toArray, List.getElem_cons_zero, List.getElem_cons_succ, List.setIfInBounds_toArray, List.set_cons_zero, List.set_cons_succ]
                refine wpAnyH_take (i := 12) (v := undef) rfl (by kernel_rfl) (by kernel_rfl) (by kernel_rfl) (fun _ _ _ h => h) (Or.inr ⟨by rfl, rfl⟩) (by assumption) ?_
                try simp only [Act.put, List.getElem_toArray, List.getElem_cons_zero, List.getElem_cons_succ, List.setIfInBounds_toArray, List.set_cons_zero, List.set_cons_succ]
                refine wpAnyH_take (i := 13) (v := undef) rfl (by kernel_rfl) (by kernel_rfl) (by kernel_rfl) (fun _ _ _ h => h) (Or.inr ⟨by rfl, rfl⟩) (by assumption) ?_
                try simp only [Act.put, List.getElem_toArray, List.getElem_cons_zero, List.getElem_cons_succ, List.setIfInBounds_toArray, List.set_cons_zero, List.set_cons_succ]
                refine wpAnyH_take (i := 14) (v := undef) rfl (by kernel_rfl) (by kernel_rfl) (by kernel_rfl) (fun _ _ _ h => h) (Or.inr ⟨by rfl, rfl⟩) (by assumption) ?_
                try simp only [Act.put, List.getElem_toArray, List.getElem_cons_zero, List.getElem_cons_succ, List.setIfInBounds_toArray, List.set_cons_zero, List.set_cons_succ]
                refine wpAnyH_take (i := 15) (v := undef) rfl (by kernel_rfl) (by kernel_rfl) (by kernel_rfl) (fun _ _ _ h => h) (Or.inr ⟨by rfl, rfl⟩) (by assumption) ?_
                try simp only [Act.put, List.getElem_toArray, List.getElem_cons_zero, List.getElem_cons_succ, List.setIfInBounds_toArray, List.set_cons_zero, List.set_cons_succ]
                refine wpAnyH_take (i := 16) (v := ?_) rfl (by kernel_rfl) (by kernel_rfl) (by kernel_rfl) (fun _ _ _ h => h) (Or.inl ⟨by rfl, ?_⟩) (by assumption) ?_
                rotate_left
                first | (focus ((intro w hSw; (try dsimp only at hSw); go_simp); (try with_reducible rfl); done)) | fail
                try simp only [Act.put, List.getElem_toArray, List.getElem_cons_zero, List.getElem_cons_succ, List.setIfInBounds_toArray, List.set_cons_zero, List.set_cons_succ]
                refine wpAnyH_take (i := 17) (v := ?_) rfl (by kernel_rfl) (by kernel_rfl) (by kernel_rfl) (fun _ _ _ h => h) (Or.inl ⟨by rfl, ?_⟩) (by assumption) ?_
                rotate_left
                first | (focus ((intro w hSw; (try dsimp only at hSw); go_simp); (try with_reducible rfl); done)) | fail
                try simp only [Act.put, List.getElem_toArray, List.getElem_cons_zero, List.getElem_cons_succ, List.setIfInBounds_toArray, List.set_cons_zero, List.set_cons_succ]
                refine wpAnyH_take (i := 18) (v := ?_) rfl (by kernel_rfl) (by kernel_rfl) (by kernel_rfl) (fun _ _ _ h => h) (Or.inl ⟨by rfl, ?_⟩) (by assumption) ?_
                rotate_left
                first | (focus ((intro w hSw; (try dsimp only at hSw); go_simp); (try with_reducible rfl); done)) | fail
                try simp only [Act.put, List.getElem_toArray, List.getElem_cons_zero, List.getElem_cons_succ, List.setIfInBounds_toArray, List.set_cons_zero, List.set_cons_succ]
                refine wpAnyH_take (i := 19) (v := ?_) rfl (by kernel_rfl) (by kernel_rfl) (by kernel_rfl) (fun _ _ _ h => h) (Or.inl ⟨by rfl, ?_⟩) (by assumption) ?_
                rotate_left
                first | (focus ((intro w hSw; (try dsimp only at hSw); go_simp); (try with_reducible rfl); done)) | fail
                try simp only [Act.put, List.getElem_toArray, List.getElem_cons_zero, List.getElem_cons_succ, List.setIfInBounds_toArray, List.set_cons_zero, List.set_cons_succ]
                refine wpAnyH_take (i := 20) (v := ?_) rfl (by kernel_rfl) (by kernel_rfl) (by kernel_rfl) (fun _ _ _ h => h) (Or.inl ⟨by rfl, ?_⟩) (by assumption) ?_
                rotate_left
                first | (focus ((intro w hSw; (try dsimp only at hSw); go_simp); (try with_reducible rfl); done)) | fail
                try simp only [Act.put, List.getElem_toArray, List.getElem_cons_zero, List.getElem_cons_succ, List.setIfInBounds_toArray, List.set_cons_zero, List.set_cons_succ]
                refine wpAnyH_take (i := 21) (v := ?_) rfl (by kernel_rfl) (by kernel_rfl) (by kernel_rfl) (fun _ _ _ h => h) (Or.inl ⟨by rfl, ?_⟩) (by assumption) ?_
                rotate_left
                first | (focus ((intro w hSw; (try dsimp only at hSw); go_simp); (try with_reducible rfl); done)) | fail
                try simp only [Act.put, List.getElem_toArray, List.getElem_cons_zero, List.getElem_cons_succ, List.setIfInBounds_toArray, List.set_cons_zero, List.set_cons_succ]
                refine wpAnyH_take (i := 22) (v := ?_) rfl (by kernel_rfl) (by kernel_rfl) (by kernel_rfl) (fun _ _ _ h => h) (Or.inl ⟨by rfl, ?_⟩) (by assumption) ?_
                rotate_left
                first | (focus ((intro w hSw; (try dsimp only at hSw); go_simp); (try with_reducible rfl); done)) | fail
                try simp only [Act.put, List.getElem_toArray, List.getElem_cons_zero, List.getElem_cons_succ, List.setIfInBounds_toArray, List.set_cons_zero, List.set_cons_succ]
                refine wpAnyH_take (i := 23) (v := ?_) rfl (by kernel_rfl) (by kernel_rfl) (by kernel_rfl) (fun _ _ _ h => h) (Or.inl ⟨by rfl, ?_⟩) (by assumption) ?_
                rotate_left
                first | (focus ((intro w hSw; (try dsimp only at hSw); go_simp); (try with_reducible rfl); done)) | fail
                try simp only [Act.put, List.getElem_toArray, List.getElem_cons_zero, List.getElem_cons_succ, List.setIfInBounds_toArray, List.set_cons_zero, List.set_cons_succ]
                refine wpAnyH_take (i := 24) (v := ?_) rfl (by kernel_rfl) (by kernel_rfl) (by kernel_rfl) (fun _ _ _ h => h) (Or.inl ⟨by rfl, ?_⟩) (by assumption) ?_
                rotate_left
                first | (focus ((intro w hSw; (try dsimp only at hSw); go_simp); (try with_reducible rfl); done)) | fail
                try simp only [Act.put, List.getElem_toArray, List.getElem_cons_zero, List.getElem_cons_succ, List.setIfInBounds_toArray, List.set_cons_zero, List.set_cons_succ]
                refine wpAnyH_take (i := 25) (v := ?_) rfl (by kernel_rfl) (by kernel_rfl) (by kernel_rfl) (fun _ _ _ h => h) (Or.inl ⟨by rfl, ?_⟩) (by assumption) ?_
                rotate_left
                first | (focus ((intro w hSw; (try dsimp only at hSw); go_simp); (try with_reducible rfl); done)) | fail
                try simp only [Act.put, List.getElem_toArray, List.getElem_cons_zero, List.getElem_cons_succ, List.setIfInBounds_toArray, List.set_cons_zero, List.set_cons_succ]
                refine wpAnyH_take (i := 26) (v := ?_) rfl (by kernel_rfl) (by kernel_rfl) (by kernel_rfl) (fun _ _ _ h => h) (Or.inl ⟨by rfl, ?_⟩) (by assumption) ?_
                rotate_left
                first | (focus ((intro w hSw; (try dsimp only at hSw); go_simp); (try with_reducible rfl); done)) | fail
                try simp only [Act.put, List.getElem_toArray, List.getElem_cons_zero, List.getElem_cons_succ, List.setIfInBounds_toArray, List.set_cons_zero, List.set_cons_succ]
                refine wpAnyH_take (i := 27) (v := ?_) rfl (by kernel_rfl) (by kernel_rfl) (by kernel_rfl) (fun _ _ _ h => h) (Or.inl ⟨by rfl, ?_⟩) (by assumption) ?_
                rotate_left
                first | (focus ((intro w hSw; (try dsimp only at hSw); go_simp); (try with_reducible rfl); done)) | fail
                try simp only [Act.put, List.getElem_toArray, List.getElem_cons_zero, List.getElem_cons_succ, List.setIfInBounds_toArray, List.set_cons_zero, List.set_cons_succ]
                refine wpAnyH_take (i := 28) (v := ?_) rfl (by kernel_rfl) (by kernel_rfl) (by kernel_rfl) (fun _ _ _ h => h) (Or.inl ⟨by rfl, ?_⟩) (by assumption) ?_
                rotate_left
                first | (focus ((intro w hSw; (try dsimp only at hSw); go_simp); (try with_reducible rfl); done)) | fail
                try simp only [Act.put, List.getElem_toArray, List.getElem_cons_zero, List.getElem_cons_succ, List.setIfInBounds_toArray, List.set_cons_zero, List.set_cons_succ]
                refine wpAnyH_take (i := 29) (v := ?_) rfl (by kernel_rfl) (by kernel_rfl) (by kernel_rfl) (fun _ _ _ h => h) (Or.inl ⟨by rfl, ?_⟩) (by assumption) ?_
                rotate_left
                first | (focus ((intro w hSw; (try dsimp only at hSw); go_simp); (try with_reducible rfl); done)) | fail
                try simp only [Act.put, List.getElem_toArray, List.getElem_cons_zero, List.getElem_cons_succ, List.setIfInBounds_toArray, List.set_cons_zero, List.set_cons_succ]
                refine wpAnyH_take (i := 30) (v := ?_) rfl (by kernel_rfl) (by kernel_rfl) (by kernel_rfl) (fun _ _ _ h => h) (Or.inl ⟨by rfl, ?_⟩) (by assumption) ?_
                rotate_left
                first | (focus ((intro w hSw; (try dsimp only at hSw); go_simp); (try with_reducible rfl); done)) | fail
                try simp only [Act.put, List.getElem_toArray, List.getElem_cons_zero, List.getElem_cons_succ, List.setIfInBounds_toArray, List.set_cons_zero, List.set_cons_succ]
                refine wpAnyH_take (i := 31) (v := ?_) rfl (by kernel_rfl) (by kernel_rfl) (by kernel_rfl) (fun _ _ _ h => h) (Or.inl ⟨by rfl, ?_⟩) (by assumption) ?_
                rotate_left
                first | (focus ((intro w hSw; (try dsimp only at hSw); go_simp); (try with_reducible rfl); done)) | fail
                try simp only [Act.put, List.getElem_toArray, List.getElem_cons_zero, List.getElem_cons_succ, List.setIfInBounds_toArray, List.set_cons_zero, List.set_cons_succ]
                refine wpAnyH_take (i := 32) (v := ?_) rfl (by kernel_rfl) (by kernel_rfl) (by kernel_rfl) (fun _ _ _ h => h) (Or.inl ⟨by rfl, ?_⟩) (by assumption) ?_
                rotate_left
                first | (focus ((intro w hSw; (try dsimp only at hSw); go_simp); (try with_reducible rfl); done)) | fail
                try simp only [Act.put, List.getElem_toArray, List.getElem_cons_zero, List.getElem_cons_succ, List.setIfInBounds_toArray, List.set_cons_zero, List.set_cons_succ]
                refine wpAnyH_take (i := 33) (v := ?_) rfl (by kernel_rfl) (by kernel_rfl) (by kernel_rfl) (fun _ _ _ h => h) (Or.inl ⟨by rfl, ?_⟩) (by assumption) ?_
                rotate_left
                first | (focus ((intro w hSw; (try dsimp only at hSw); go_simp); (try with_reducible rfl); done)) | fail
                try simp only [Act.put, List.getElem_toArray, List.getElem_cons_zero, List.getElem_cons_succ, List.setIfInBounds_toArray, List.set_cons_zero, List.set_cons_succ]
                refine wpAnyH_done (by kernel_rfl) ?_ _
                go_wp2
                go_roundw
                case rel => exact ⟨_, by omega, by go_num, ok_step HK.out.1 HXj.out HX.out, HEV1.out.drew.step B5.out⟩
                case measure => simp [intOf]; omega
            · have hEq : ∀ w : World, (binOp .eql 48 (.agg #[.int .i64 x1, .int .i64 x2]) (.agg #[.int .i64 o1, .int .i64 o2])).run Tryz.prog w = .ok (.bool false) w := fun w => by have h := eql_act x1 x2 o1 o2 w; unfold actV at h; rw [decide_eq_false hq] at h; exact h
              have hq1 : decide (((x1, x2) : Ac) = (o1, o2)) = false := decide_eq_false (fun e => hq ⟨congrArg Prod.fst e, congrArg Prod.snd e⟩)
              clear hq
              have HX := Lib.hid (show okP ((o1, o2), o3) (prevAt none L 0) ((x1, x2), x3) = true from by rw [HPV.out]; unfold okP; rw [hr', hq1]; rfl)
              clear hq1 hr'
              refine wp_region_held_drew (S := (fun W => W.cell? ⟨D, 0, none⟩ = some (.int .i64 x1) ∧ W.cell? ⟨D, 1, none⟩ = some (.int .i64 x2) ∧ W.cell? ⟨D, 2, none⟩ = some (.int .i64 x3) ∧ W.cell? ⟨w.heap.size, 0, none⟩ = some (.int .i64 o1) ∧ W.cell? ⟨w.heap.size, 1, none⟩ = some (.int .i64 o2) ∧ W.cell? ⟨w.heap.size, 2, none⟩ = some (.int .i64 o3) ∧ W.cell? ⟨w.heap.size, 18, none⟩ = some (.slice (some ⟨b0, o0, none⟩) n c))) (by kernel_rfl) ?_ (fun hHeld => ?_)
              · (try dsimp only); exact HS.out
              refine wpAnyH_take (i := 0) (v := ?_) rfl (by kernel_rfl) (by kernel_rfl) (by kernel_rfl) (fun _ _ _ h => h) (Or.inl ⟨by rfl, ?_⟩) (by assumption) ?_
              rotate_left
              first | (focus ((intro w hSw; (try dsimp only at hSw); go_simp); (try with_reducible rfl); done)) | fail
              try simp only [Act.put, List.getElem_toArray, List.getElem_cons_zero, List.setIfInBounds_toArray, List.set_cons_zero, List.set_cons_succ]
              refine wpAnyH_ready (rs := [1]) (by kernel_rfl) (by simp) ?_
              refine AllReadyH.cons rfl (fun K hK => ?_) AllReadyH.nil
              go_simp
              refine (CR.out _).mono ?_; rintro r w5 ⟨rfl, b5⟩
              go_wp2_with fail
              refine hK.out _ _ ?_ (fun hHeld => ?_)
              · (try dsimp only); exact ⟨((below_of_le b5 hN0).cell hDl).trans hHeld.1, ((below_of_le b5 hN0).cell hDl).trans hHeld.2.1, ((below_of_le b5 hN0).cell hDl).trans hHeld.2.2.1, ((below_of_le b5 hN0).cell hEl).trans hHeld.2.2.2.1, ((below_of_le b5 hN0).cell hEl).trans hHeld.2.2.2.2.1, ((below_of_le b5 hN0).cell hEl).trans hHeld.2.2.2.2.2.1, ((below_of_le b5 hN0).cell hEl).trans hHeld.2.2.2.2.2.2⟩
              clear hK K
              try simp only [Act.put, List.getElem_toArray, List.getElem_cons_zero, List.getElem_cons_succ, List.setIfInBounds_toArray, List.set_cons_zero, List.set_cons_succ]
              have B5 := Lib.hid (below_of_le b5 hN0)
              clear b5
              refine wpAnyH_take (i := 2) (v := ?_) rfl (by kernel_rfl) (by kernel_rfl) (by kernel_rfl) (fun _ _ _ h => h) (Or.inl ⟨by rfl, ?_⟩) (by assumption) ?_
              rotate_left
              first | (focus ((intro w hSw; (try dsimp only at hSw); go_simp); (try with_reducible rfl); done)) | fail
              try simp only [Act.put, List.getElem_toArray, List.getElem_cons_zero, List.getElem_cons_succ, List.setIfInBounds_toArray, List.set_cons_zero, List.set_cons_succ]
              refine wpAnyH_take (i := 3) (v := ?_) rfl (by kernel_rfl) (by kernel_rfl) (by kernel_rfl) (fun _ _ _ h => h) (Or.inl ⟨by rfl, ?_⟩) (by assumption) ?_
              rotate_left
              first | (focus ((intro w hSw; (try dsimp only at hSw); go_simp); (try with_reducible rfl); done)) | fail
              try simp only [Act.put, List.getElem_toArray, List.getElem_cons_zero, List.getElem_cons_succ, List.setIfInBounds_toArray, List.set_cons_zero, List.set_cons_succ]
              refine wpAnyH_take (i := 4) (v := ?_) rfl (by kernel_rfl) (by kernel_rfl) (by kernel_rfl) (fun _ _ _ h => h) (Or.inl ⟨by rfl, ?_⟩) (by assumption) ?_
              rotate_left
              first | (focus ((intro w hSw; (try dsimp only at hSw); go_simp); (try with_reducible rfl); done)) | fail
              try simp only [Act.put, List.getElem_toArray, List.getElem_cons_zero, List.getElem_cons_succ, List.setIfInBounds_toArray, List.set_cons_zero, List.set_cons_succ]
              refine wpAnyH_take (i := 5) (v := ?_) rfl (by kernel_rfl) (by kernel_rfl) (by kernel_rfl) (fun _ _ _ h => h) (Or.inl ⟨by rfl, ?_⟩) (by assumption) ?_
              rotate_left
              first | (focus ((intro w hSw; (try dsimp only at hSw); go_simp); (try with_reducible rfl); done)) | fail
              try simp only [Act.put, List.getElem_toArray, List.getElem_cons_zero, List.getElem_cons_succ, List.setIfInBounds_toArray, List.set_cons_zero, List.set_cons_succ]
              refine wpAnyH_take (i := 6) (v := ?_) rfl (by kernel_rfl) (by kernel_rfl) (by kernel_rfl) (fun _ _ _ h => h) (Or.inl ⟨by rfl, ?_⟩) (by assumption) ?_
              rotate_left
              first | (focus ((intro w hSw; (try dsimp only at hSw); go_simp); (try with_reducible rfl); done)) | fail
              try simp only [Act.put, List.getElem_toArray, List.getElem_cons_zero, List.getElem_cons_succ, List.setIfInBounds_toArray, List.set_cons_zero, List.set_cons_succ]
              refine wpAnyH_take (i := 7) (v := undef) rfl (by kernel_rfl) (by kernel_rfl) (by kernel_rfl) (fun _ _ _ h => h) (Or.inr ⟨by rfl, rfl⟩) (by assumption) ?_
              try simp only [Act.put, List.getElem_toArray, List.getElem_cons_zero, List.getElem_cons_succ, List.setIfInBounds_toArray, List.set_cons_zero, List.set_cons_succ]
              refine wpAnyH_take (i := 8) (v := undef) rfl (by kernel_rfl) (by kernel_rfl) (by kernel_rfl) (fun _ _ _ h => h) (Or.inr ⟨by rfl, rfl⟩) (by assumption) ?_
              try simp only [Act.put, List.getElem_toArray, List.getElem_cons_zero, List.getElem_cons_succ, List.setIfInBounds_toArray, List.set_cons_zero, List.set_cons_succ]
              refine wpAnyH_take (i := 9) (v := undef) rfl (by kernel_rfl) (by kernel_rfl) (by kernel_rfl) (fun _ _ _ h => h) (Or.inr ⟨by rfl, rfl⟩) (by assumption) ?_
              try simp only [Act.put, List.getElem_toArray, List.getElem_cons_zero, List.getElem_cons_succ, List.setIfInBounds_toArray, List.set_cons_zero, List.set_cons_succ]
              refine wpAnyH_take (i := 10) (v := undef) rfl (by kernel_rfl) (by kernel_rfl) (by kernel_rfl) (fun _ _ _ h => h) (Or.inr ⟨by rfl, rfl⟩) (by assumption) ?_
              try simp only [Act.put, List.getElem_toArray, List.getElem_cons_zero, List.getElem_cons_succ, List.setIfInBounds_toArray, List.set_cons_zero, List.set_cons_succ]
              refine wpAnyH_take (i := 11) (v := undef) rfl (by kernel_rfl) (by kernel_rfl) (by kernel_rfl) (fun _ _ _ h => h) (Or.inr ⟨by rfl, rfl⟩) (by assumption) ?_
              try simp only [Act.put, List.getElem_toArray, List.getElem_cons_zero, List.getElem_cons_succ, List.setIfInBounds_toArray, List.set_cons_zero, List.set_cons_succ]
              refine wpAnyH_take (i := 12) (v := undef) rfl (by kernel_rfl) (by kernel_rfl) (by kernel_rfl) (fun _ _ _ h => h) (Or.inr ⟨by rfl, rfl⟩) (by assumption) ?_
              try simp only [Act.put, List.getElem_toArray, List.getElem_cons_zero, List.getElem_cons_succ, List.setIfInBounds_toArray, List.set_cons_zero, List.set_cons_succ]
              refine wpAnyH_take (i := 13) (v := undef) rfl (by kernel_rfl) (by kernel_rfl) (by kernel_rfl) (fun _ _ _ h => h) (Or.inr ⟨by rfl, rfl⟩) (by assumption) ?_
              try simp only [Act.put, List.getElem_toArray, List.getElem_cons_zero, List.getElem_cons_succ, List.setIfInBounds_toArray, List.set_cons_zero, List.set_cons_succ]
              refine wpAnyH_take (i := 14) (v := undef) rfl (by kernel_rfl) (by kernel_rfl) (by kernel_rfl) (fun _ _ _ h => h) (Or.inr ⟨by rfl, rfl⟩) (by assumption) ?_
              try simp only [Act.put, List.getElem_toArray, List.getElem_cons_zero, List.getElem_cons_succ, List.setIfInBounds_toArray, List.set_cons_zero, List.set_cons_succ]
              refine wpAnyH_take (i := 15) (v := undef) rfl (by kernel_rfl) (by kernel_rfl) (by kernel_rfl) (fun _ _ _ h => h) (Or.inr ⟨by rfl, rfl⟩) (by assumption) ?_
              try simp only [Act.put, List.getElem_toArray, List.getElem_cons_zero, List.getElem_cons_succ, List.setIfInBounds_toArray, List.set_cons_zero, List.set_cons_succ]
              refine wpAnyH_take (i := 16) (v := ?_) rfl (by kernel_rfl) (by kernel_rfl) (by kernel_rfl) (fun _ _ _ h => h) (Or.inl ⟨by rfl, ?_⟩) (by assumption) ?_
              rotate_left
              first | (focus ((intro w hSw; (try dsimp only at hSw); go_simp); (try with_reducible rfl); done)) | fail
              try simp only [Act.put, List.getElem_toArray, List.getElem_cons_zero, List.getElem_cons_succ, List.setIfInBounds_toArray, List.set_cons_zero, List.set_cons_succ]
              refine wpAnyH_take (i := 17) (v := ?_) rfl (by kernel_rfl) (by kernel_rfl) (by kernel_rfl) (fun _ _ _ h => h) (Or.inl ⟨by rfl, ?_⟩) (by assumption) ?_
              rotate_left
              first | (focus ((intro w hSw; (try dsimp only at hSw); go_simp); (try with_reducible rfl); done)) | fail
              try simp only [Act.put, List.getElem_toArray, List.getElem_cons_zero, List.getElem_cons_succ, List.setIfInBounds_toArray, List.set_cons_zero, List.set_cons_succ]
              refine wpAnyH_take (i := 18) (v := ?_) rfl (by kernel_rfl) (by kernel_rfl) (by kernel_rfl) (fun _ _ _ h => h) (Or.inl ⟨by rfl, ?_⟩) (by assumption) ?_
              rotate_left
              first | (focus ((intro w hSw; (try dsimp only at hSw); go_simp); (try with_reducible rfl); done)) | fail
              try simp only [Act.put, List.getElem_toArray, List.getElem_cons_zero, List.getElem_cons_succ, List.setIfInBounds_toArray, List.set_cons_zero, List.set_cons_succ]
              refine wpAnyH_take (i := 19) (v := ?_) rfl (by kernel_rfl) (by kernel_rfl) (by kernel_rfl) (fun _ _ _ h => h) (Or.inl ⟨by rfl, ?_⟩) (by assumption) ?_
              rotate_left
              first | (focus ((intro w hSw; (try dsimp only at hSw); go_simp); (try with_reducible rfl); done)) | fail
              try simp only [Act.put, List.getElem_toArray, List.getElem_cons_zero, List.getElem_cons_succ, List.setIfInBounds_toArray, List.set_cons_zero, List.set_cons_succ]
              refine wpAnyH_take (i := 20) (v := ?_) rfl (by kernel_rfl) (by kernel_rfl) (by kernel_rfl) (fun _ _ _ h => h) (Or.inl ⟨by rfl, ?_⟩) (by assumption) ?_
              rotate_left
              first | (focus ((intro w hSw; (try dsimp only at hSw); go_simp); (try with_reducible rfl); done)) | fail
              try simp only [Act.put, List.getElem_toArray, List.getElem_cons_zero, List.getElem_cons_succ, List.setIfInBounds_toArray, List.set_cons_zero, List.set_cons_succ]
              refine wpAnyH_take (i := 21) (v := ?_) rfl (by kernel_rfl) (by kernel_rfl) (by kernel_rfl) (fun _ _ _ h => h) (Or.inl ⟨by rfl, ?_⟩) (by assumption) ?_
              rotate_left
              first | (focus ((intro w hSw; (try dsimp only at hSw); go_simp); (try with_reducible rfl); done)) | fail
              try simp only [Act.put, List.getElem_toArray, List.getElem_cons_zero, List.getElem_cons_succ, List.setIfInBounds_toArray, List.set_cons_zero, List.set_cons_succ]
              refine wpAnyH_take (i := 22) (v := ?_) rfl (by kernel_rfl) (by kernel_rfl) (by kernel_rfl) (fun _ _ _ h => h) (Or.inl ⟨by rfl, ?_⟩) (by assumption) ?_
              rotate_left
              first | (focus ((intro w hSw; (try dsimp only at hSw); go_simp); (try with_reducible rfl); done)) | fail
              try simp only [Act.put, List.getElem_toArray, List.getElem_cons_zero, List.getElem_cons_succ, List.setIfInBounds_toArray, List.set_cons_zero, List.set_cons_succ]
              refine wpAnyH_take (i := 23) (v := ?_) rfl (by kernel_rfl) (by kernel_rfl) (by kernel_rfl) (fun _ _ _ h => h) (Or.inl ⟨by rfl, ?_⟩) (by assumption) ?_
              rotate_left
              first | (focus ((intro w hSw; (try dsimp only at hSw); go_simp); (try with_reducible rfl); done)) | fail
              try simp only [Act.put, List.getElem_toArray, List.getElem_cons_zero, List.getElem_cons_succ, List.setIfInBounds_toArray, List.set_cons_zero, List.set_cons_succ]
              refine wpAnyH_take (i := 24) (v := ?_) rfl (by kernel_rfl) (by kernel_rfl) (by kernel_rfl) (fun _ _ _ h => h) (Or.inl ⟨by rfl, ?_⟩) (by assumption) ?_
              rotate_left
              first | (focus ((intro w hSw; (try dsimp only at hSw); go_simp); (try with_reducible rfl); done)) | fail
              try simp only [Act.put, List.getElem_toArray, List.getElem_cons_zero, List.getElem_cons_succ, List.setIfInBounds_toArray, List.set_cons_zero, List.set_cons_succ]
              refine wpAnyH_take (i := 25) (v := ?_) rfl (by kernel_rfl) (by kernel_rfl) (by kernel_rfl) (fun _ _ _ h => h) (Or.inl ⟨by rfl, ?_⟩) (by assumption) ?_
              rotate_left
              first | (focus ((intro w hSw; (try dsimp only at hSw); go_simp); (try with_reducible rfl); done)) | fail
              try simp only [Act.put, List.getElem_toArray, List.getElem_cons_zero, List.getElem_cons_succ, List.setIfInBounds_toArray, List.set_cons_zero, List.set_cons_succ]
              refine wpAnyH_take (i := 26) (v := undef) rfl (by kernel_rfl) (by kernel_rfl) (by kernel_rfl) (fun _ _ _ h => h) (Or.inr ⟨by rfl, rfl⟩) (by assumption) ?_
              try simp only [Act.put, List.getElem_toArray, List.getElem_cons_zero, List.getElem_cons_succ, List.setIfInBounds_toArray, List.set_cons_zero, List.set_cons_succ]
              refine wpAnyH_take (i := 27) (v := undef) rfl (by kernel_rfl) (by kernel_rfl) (by kernel_rfl) (fun _ _ _ h => h) (Or.inr ⟨by rfl, rfl⟩) (by assumption) ?_
              try simp only [Act.put, List.getElem_toArray, List.getElem_cons_zero, List.getElem_cons_succ, List.setIfInBounds_toArray, List.set_cons_zero, List.set_cons_succ]
              refine wpAnyH_take (i := 28) (v := undef) rfl (by kernel_rfl) (by kernel_rfl) (by kernel_rfl) (fun _ _ _ h => h) (Or.inr ⟨by rfl, rfl⟩) (by assumption) ?_
              try simp only [Act.put, List.getElem_toArray, List.getElem_cons_zero, List.getElem_cons_succ, List.setIfInBounds_toArray, List.set_cons_zero, List.set_cons_succ]
              refine wpAnyH_take (i := 29) (v := undef) rfl (by kernel_rfl) (by kernel_rfl) (by kernel_rfl) (fun _ _ _ h => h) (Or.inr ⟨by rfl, rfl⟩) (by assumption) ?_
              try simp only [Act.put, List.getElem_toArray, List.getElem_cons_zero, List.getElem_cons_succ, List.setIfInBounds_toArray, List.set_cons_zero, List.set_cons_succ]
              refine wpAnyH_take (i := 30) (v := undef) rfl (by kernel_rfl) (by kernel_rfl) (by kernel_rfl) (fun _ _ _ h => h) (Or.inr ⟨by rfl, rfl⟩) (by assumption) ?_
              try simp only [Act.put, List.getElem_toArray, List.getElem_cons_zero, List.getElem_cons_succ, List.setIfInBounds_toArray, List.set_cons_zero, List.set_cons_succ]
              refine wpAnyH_take (i := 31) (v := undef) rfl (by kernel_rfl) (by kernel_rfl) (by kernel_rfl) (fun _ _ _ h => h) (Or.inr ⟨by rfl, rfl⟩) (by assumption) ?_
              try simp only [Act.put, List.getElem_toArray, List.getElem_cons_zero, List.getElem_cons_succ, List.setIfInBounds_toArray, List.set_cons_zero, List.set_cons_succ]
              refine wpAnyH_take (i := 32) (v := ?_) rfl (by kernel_rfl) (by kernel_rfl) (by kernel_rfl) (fun _ _ _ h => h) (Or.inl ⟨by rfl, ?_⟩) (by assumption) ?_
              rotate_left
              first | (focus ((intro w hSw; (try dsimp only at hSw); go_simp); (try with_reducible rfl); done)) | fail
              try simp only [Act.put, List.getElem_toArray, List.getElem_cons_zero, List.getElem_cons_succ, List.setIfInBounds_toArray, List.set_cons_zero, List.set_cons_succ]
              refine wpAnyH_take (i := 33) (v := ?_) rfl (by kernel_rfl) (by kernel_rfl) (by kernel_rfl) (fun _ _ _ h => h) (Or.inl ⟨by rfl, ?_⟩) (by assumption) ?_
              rotate_left
              first | (focus ((intro w hSw; (try dsimp only at hSw); go_simp); (try with_reducible rfl); done)) | fail
              try simp only [Act.put, List.getElem_toArray, List.getElem_cons_zero, List.getElem_cons_succ, List.setIfInBounds_toArray, List.set_cons_zero, List.set_cons_succ]
              refine wpAnyH_done (by kernel_rfl) ?_ _
              go_wp2
              go_roundw
              case rel => exact ⟨_, by omega, by go_num, ok_step HK.out.1 HXj.out HX.out, HEV1.out.drew.step B5.out⟩
              case measure => simp [intOf]; omega
        · obtain ⟨k, rfl⟩ : ∃ k, j = k + 1 := ⟨j - 1, by omega⟩
          obtain ⟨p, hp⟩ : ∃ p, L[k]? = some p := ⟨L[k]'(by have := HLn.out; omega), List.getElem?_eq_getElem _⟩
          obtain ⟨b1, o1', hA1', _, m0, m1, m2⟩ := Ds.at_ HEV1.out.2.1 hp
          obtain ⟨rfl, rfl⟩ : b0 = b1 ∧ o0 = o1' := by simpa using hA1'
          clear hA1'
          obtain ⟨⟨p1, p2⟩, p3⟩ := p
          simp only at m0 m1 m2
          have HPV := Lib.hid (show prevAt none L (k + 1) = some ((p1, p2), p3) by unfold prevAt; rw [if_neg (by omega)]; exact hp)
          clear hp
          have CL := Lib.hid (fun w => less_dLt p1 p2 p3 x1 x2 x3 w)
          unfold dotV at CL
          have yk : IntKind.i64.wrap (k : Int) = (k : Int) := IntWalk.i64_in _ (by omega)
          have yk2 : decide ((0 : Int) < (k : Int) + 1) = true := decide_eq_true (by omega)
          have hkn : k < n := by omega
          have HS := Lib.hid (And.intro HS.out.1 (And.intro HS.out.2.1 (And.intro HS.out.2.2.1 (And.intro HS.out.2.2.2.1 (And.intro HS.out.2.2.2.2.1 (And.intro HS.out.2.2.2.2.2.1 (And.intro HS.out.2.2.2.2.2.2 (And.intro m0 (And.intro m1 m2)))))))))
          clear m0 m1 m2
          cases hr : dotB x1 x2 x3 with
          | false =>
            rw [hr] at CR
            have hr' : rightD ((x1, x2), x3) = false := hr
            clear hr
            have HX := Lib.hid (show okP ((o1, o2), o3) (prevAt none L (k + 1)) ((x1, x2), x3) = false from by unfold okP; rw [hr']; rfl)
            clear hr'
            refine wp_region_held_drew (S := (fun W => W.cell? ⟨D, 0, none⟩ = some (.int .i64 x1) ∧ W.cell? ⟨D, 1, none⟩ = some (.int .i64 x2) ∧ W.cell? ⟨D, 2, none⟩ = some (.int .i64 x3) ∧ W.cell? ⟨w.heap.size, 0, none⟩ = some (.int .i64 o1) ∧ W.cell? ⟨w.heap.size, 1, none⟩ = some (.int .i64 o2) ∧ W.cell? ⟨w.heap.size, 2, none⟩ = some (.int .i64 o3) ∧ W.cell? ⟨w.heap.size, 18, none⟩ = some (.slice (some ⟨b0, o0, none⟩) n c) ∧ W.cell? ⟨b0, o0 + k * 3, none⟩ = some (.int .i64 p1) ∧ W.cell? ⟨b0, o0 + k * 3 + 1, none⟩ = some (.int .i64 p2) ∧ W.cell? ⟨b0, o0 + k * 3 + 2, none⟩ = some (.int .i64 p3))) (by kernel_rfl) ?_ (fun hHeld => ?_)
            · (try dsimp only); exact HS.out
            refine wpAnyH_take (i := 0) (v := ?_) rfl (by kernel_rfl) (by kernel_rfl) (by kernel_rfl) (fun _ _ _ h => h) (Or.inl ⟨by rfl, ?_⟩) (by assumption) ?_
            rotate_left
            first | (focus ((intro w hSw; (try dsimp only at hSw); go_simp); (try with_reducible rfl); done)) | fail
            try simp only [Act.put, List.getElem_toArray, List.getElem_cons_zero, List.setIfInBounds_toArray, List.set_cons_zero, List.set_cons_succ]
            refine wpAnyH_ready (rs := [1]) (by kernel_rfl) (by simp) ?_
            refine AllReadyH.cons rfl (fun K hK => ?_) AllReadyH.nil
            go_simp
            refine (CR.out _).mono ?_; rintro r w5 ⟨rfl, b5⟩
            go_wp2_with fail
            refine hK.out _ _ ?_ (fun hHeld => ?_)
            · (try dsimp only); exact ⟨((below_of_le b5 hN0).cell hDl).trans hHeld.1, ((below_of_le b5 hN0).cell hDl).trans hHeld.2.1, ((below_of_le b5 hN0).cell hDl).trans hHeld.2.2.1, ((below_of_le b5 hN0).cell hEl).trans hHeld.2.2.2.1, ((below_of_le b5 hN0).cell hEl).trans hHeld.2.2.2.2.1, ((below_of_le b5 hN0).cell hEl).trans hHeld.2.2.2.2.2.1, ((below_of_le b5 hN0).cell hEl).trans hHeld.2.2.2.2.2.2.1, ((below_of_le b5 hN0).cell hbl).trans hHeld.2.2.2.2.2.2.2.1, ((below_of_le b5 hN0).cell hbl).trans hHeld.2.2.2.2.2.2.2.2.1, ((below_of_le b5 hN0).cell hbl).trans hHeld.2.2.2.2.2.2.2.2.2⟩
            clear hK K
            try simp only [Act.put, List.getElem_toArray, List.getElem_cons_zero, List.getElem_cons_succ, List.setIfInBounds_toArray, List.set_cons_zero, List.set_cons_succ]
            have B5 := Lib.hid (below_of_le b5 hN0)
            clear b5
            refine wpAnyH_take (i := 2) (v := ?_) rfl (by kernel_rfl) (by kernel_rfl) (by kernel_rfl) (fun _ _ _ h => h) (Or.inl ⟨by rfl, ?_⟩) (by assumption) ?_
            rotate_left
            first | (focus ((intro w hSw; (try dsimp only at hSw); go_simp); (try with_reducible rfl); done)) | fail
            try simp only [Act.put, List.getElem_toArray, List.getElem_cons_zero, List.getElem_cons_succ, List.setIfInBounds_toArray, List.set_cons_zero, List.set_cons_succ]
            refine wpAnyH_take (i := 3) (v := ?_) rfl (by kernel_rfl) (by kernel_rfl) (by kernel_rfl) (fun _ _ _ h => h) (Or.inl ⟨by rfl, ?_⟩) (by assumption) ?_
            rotate_left
            first | (focus ((intro w hSw; (try dsimp only at hSw); go_simp); (try with_reducible rfl); done)) | fail
            try simp only [Act.put, List.getElem_toArray, List.getElem_cons_zero, List.getElem_cons_succ, List.setIfInBounds_toArray, List.set_cons_zero, List.set_cons_succ]
            refine wpAnyH_take (i := 4) (v := undef) rfl (by kernel_rfl) (by kernel_rfl) (by kernel_rfl) (fun _ _ _ h => h) (Or.inr ⟨by rfl, rfl⟩) (by assumption) ?_
            try simp only [Act.put, List.getElem_toArray, List.getElem_cons_zero, List.getElem_cons_succ, List.setIfInBounds_toArray, List.set_cons_zero, List.set_cons_succ]
            refine wpAnyH_take (i := 5) (v := undef) rfl (by kernel_rfl) (by kernel_rfl) (by kernel_rfl) (fun _ _ _ h => h) (Or.inr ⟨by rfl, rfl⟩) (by assumption) ?_
            try simp only [Act.put, List.getElem_toArray, List.getElem_cons_zero, List.getElem_cons_succ, List.setIfInBounds_toArray, List.set_cons_zero, List.set_cons_succ]
            refine wpAnyH_take (i := 6) (v := undef) rfl (by kernel_rfl) (by kernel_rfl) (by kernel_rfl) (fun _ _ _ h => h) (Or.inr ⟨by rfl, rfl⟩) (by assumption) ?_
            try simp only [Act.put, List.getElem_toArray, List.getElem_cons_zero, List.getElem_cons_succ, List.setIfInBounds_toArray, List.set_cons_zero, List.set_cons_succ]
            refine wpAnyH_take (i := 7) (v := undef) rfl (by kernel_rfl) (by kernel_rfl) (by kernel_rfl) (fun _ _ _ h => h) (Or.inr ⟨by rfl, rfl⟩) (by assumption) ?_
            try simp only [Act.put, List.getElem_toArray, List.getElem_cons_zero, List.getElem_cons_succ, List.setIfInBounds_toArray, List.set_cons_zero, List.set_cons_succ]
            refine wpAnyH_take (i := 8) (v := undef) rfl (by kernel_rfl) (by kernel_rfl) (by kernel_rfl) (fun _ _ _ h => h) (Or.inr ⟨by rfl, rfl⟩) (by assumption) ?_
            try simp only [Act.put, List.getElem_toArray, List.getElem_cons_zero, List.getElem_cons_succ, List.setIfInBounds_toArray, List.set_cons_zero, List.set_cons_succ]
            refine wpAnyH_take (i := 9) (v := undef) rfl (by kernel_rfl) (by kernel_rfl) (by kernel_rfl) (fun _ _ _ h => h) (Or.inr ⟨by rfl, rfl⟩) (by assumption) ?_
            try simp only [Act.put, List.getElem_toArray, List.getElem_cons_zero, List.getElem_cons_succ, List.setIfInBounds_toArray, List.set_cons_zero, List.set_cons_succ]
            refine wpAnyH_take (i := 10) (v := undef) rfl (by kernel_rfl) (by kernel_rfl) (by kernel_rfl) (fun _ _ _ h => h) (Or.inr ⟨by rfl, rfl⟩) (by assumption) ?_
            try simp only [Act.put, List.getElem_toArray, List.getElem_cons_zero, List.getElem_cons_succ, List.setIfInBounds_toArray, List.set_cons_zero, List.set_cons_succ]
            refine wpAnyH_take (i := 11) (v := undef) rfl (by kernel_rfl) (by kernel_rfl) (by kernel_rfl) (fun _ _ _ h => h) (Or.inr ⟨by rfl, rfl⟩) (by assumption) ?_
            try simp only [Act.put, List.getElem_toArray, List.getElem_cons_zero, List.getElem_cons_succ, List.setIfInBounds_toArray, List.set_cons_zero, List.set_cons_succ]
            refine wpAnyH_take (i := 12) (v := undef) rfl (by kernel_rfl) (by kernel_rfl) (by kernel_rfl) (fun _ _ _ h => h) (Or.inr ⟨by rfl, rfl⟩) (by assumption) ?_
            try simp only [Act.put, List.getElem_toArray, List.getElem_cons_zero, List.getElem_cons_succ, List.setIfInBounds_toArray, List.set_cons_zero, List.set_cons_succ]
            refine wpAnyH_take (i := 13) (v := undef) rfl (by kernel_rfl) (by kernel_rfl) (by kernel_rfl) (fun _ _ _ h => h) (Or.inr ⟨by rfl, rfl⟩) (by assumption) ?_
            try simp only [Act.put, List.getElem_toArray, List.getElem_cons_zero, List.getElem_cons_succ, List.setIfInBounds_toArray, List.set_cons_zero, List.set_cons_succ]
            refine wpAnyH_take (i := 14) (v := undef) rfl (by kernel_rfl) (by kernel_rfl) (by kernel_rfl) (fun _ _ _ h => h) (Or.inr ⟨by rfl, rfl⟩) (by assumption) ?_
            try simp only [Act.put, List.getElem_toArray, List.getElem_cons_zero, List.getElem_cons_succ, List.setIfInBounds_toArray, List.set_cons_zero, List.set_cons_succ]
            refine wpAnyH_take (i := 15) (v := undef) rfl (by kernel_rfl) (by kernel_rfl) (by kernel_rfl) (fun _ _ _ h => h) (Or.inr ⟨by rfl, rfl⟩) (by assumption) ?_
            try simp only [Act.put, List.getElem_toArray, List.getElem_cons_zero, List.getElem_cons_succ, List.setIfInBounds_toArray, List.set_cons_zero, List.set_cons_succ]
            refine wpAnyH_take (i := 16) (v := undef) rfl (by kernel_rfl) (by kernel_rfl) (by kernel_rfl) (fun _ _ _ h => h) (Or.inr ⟨by rfl, rfl⟩) (by assumption) ?_
            try simp only [Act.put, List.getElem_toArray, List.getElem_cons_zero, List.getElem_cons_succ, List.setIfInBounds_toArray, List.set_cons_zero, List.set_cons_succ]
            refine wpAnyH_take (i := 17) (v := ?_) rfl (by kernel_rfl) (by kernel_rfl) (by kernel_rfl) (fun _ _ _ h => h) (Or.inl ⟨by rfl, ?_⟩) (by assumption) ?_
            rotate_left
            first | (focus ((intro w hSw; (try dsimp only at hSw); go_simp); (try with_reducible rfl); done)) | fail
            try simp only [Act.put, List.getElem_toArray, List.getElem_cons_zero, List.getElem_cons_succ, List.setIfInBounds_toArray, List.set_cons_zero, List.set_cons_succ]
            refine wpAnyH_take (i := 18) (v := ?_) rfl (by kernel_rfl) (by kernel_rfl) (by kernel_rfl) (fun _ _ _ h => h) (Or.inl ⟨by rfl, ?_⟩) (by assumption) ?_
            rotate_left
            first | (focus ((intro w hSw; (try dsimp only at hSw); go_simp); (try with_reducible rfl); done)) | fail
            try simp only [Act.put, List.getElem_toArray, List.getElem_cons_zero, List.getElem_cons_succ, List.setIfInBounds_toArray, List.set_cons_zero, List.set_cons_succ]
            refine wpAnyH_take (i := 19) (v := undef) rfl (by kernel_rfl) (by kernel_rfl) (by kernel_rfl) (fun _ _ _ h => h) (Or.inr ⟨by rfl, rfl⟩) (by assumption) ?_
            try simp only [Act.put, List.getElem_toArray, List.getElem_cons_zero, List.getElem_cons_succ, List.setIfInBounds_toArray, List.set_cons_zero, List.set_cons_succ]
            refine wpAnyH_take (i := 20) (v := undef) rfl (by kernel_rfl) (by kernel_rfl) (by kernel_rfl) (fun _ _ _ h => h) (Or.inr ⟨by rfl, rfl⟩) (by assumption) ?_
            try simp only [Act.put, List.getElem_toArray, List.getElem_cons_zero, List.getElem_cons_succ, List.setIfInBounds_toArray, List.set_cons_zero, List.set_cons_succ]
            refine wpAnyH_take (i := 21) (v := undef) rfl (by kernel_rfl) (by kernel_rfl) (by kernel_rfl) (fun _ _ _ h => h) (Or.inr ⟨by rfl, rfl⟩) (by assumption) ?_
            try simp only [Act.put, List.getElem_toArray, List.getElem_cons_zero, List.getElem_cons_succ, List.setIfInBounds_toArray, List.set_cons_zero, List.set_cons_succ]
            refine wpAnyH_take (i := 22) (v := undef) rfl (by kernel_rfl) (by kernel_rfl) (by kernel_rfl) (fun _ _ _ h => h) (Or.inr ⟨by rfl, rfl⟩) (by assumption) ?_
            try simp only [Act.put, List.getElem_toArray, List.getElem_cons_zero, List.getElem_cons_succ, List.setIfInBounds_toArray, List.set_cons_zero, List.set_cons_succ]
            refine wpAnyH_take (i := 23) (v := undef) rfl (by kernel_rfl) (by kernel_rfl) (by kernel_rfl) (fun _ _ _ h => h) (Or.inr ⟨by rfl, rfl⟩) (by assumption) ?_
            try simp only [Act.put, List.getElem_toArray, List.getElem_cons_zero, List.getElem_cons_succ, List.setIfInBounds_toArray, List.set_cons_zero, List.set_cons_succ]
            refine wpAnyH_take (i := 24) (v := undef) rfl (by kernel_rfl) (by kernel_rfl) (by kernel_rfl) (fun _ _ _ h => h) (Or.inr ⟨by rfl, rfl⟩) (by assumption) ?_
            try simp only [Act.put, List.getElem_toArray, List.getElem_cons_zero, List.getElem_cons_succ, List.setIfInBounds_toArray, List.set_cons_zero, List.set_cons_succ]
            refine wpAnyH_take (i := 25) (v := undef) rfl (by kernel_rfl) (by kernel_rfl) (by kernel_rfl) (fun _ _ _ h => h) (Or.inr ⟨by rfl, rfl⟩) (by assumption) ?_
            try simp only [Act.put, List.getElem_toArray, List.getElem_cons_zero, List.getElem_cons_succ, List.setIfInBounds_toArray, List.set_cons_zero, List.set_cons_succ]
            refine wpAnyH_take (i := 26) (v := undef) rfl (by kernel_rfl) (by kernel_rfl) (by kernel_rfl) (fun _ _ _ h => h) (Or.inr ⟨by rfl, rfl⟩) (by assumption) ?_
            try simp only [Act.put, List.getElem_toArray, List.getElem_cons_zero, List.getElem_cons_succ, List.setIfInBounds_toArray, List.set_cons_zero, List.set_cons_succ]
            refine wpAnyH_take (i := 27) (v := undef) rfl (by kernel_rfl) (by kernel_rfl) (by kernel_rfl) (fun _ _ _ h => h) (Or.inr ⟨by rfl, rfl⟩) (by assumption) ?_
            try simp only [Act.put, List.getElem_toArray, List.getElem_cons_zero, List.getElem_cons_succ, List.setIfInBounds_toArray, List.set_cons_zero, List.set_cons_succ]
            refine wpAnyH_take (i := 28) (v := undef) rfl (by kernel_rfl) (by kernel_rfl) (by kernel_rfl) (fun _ _ _ h => h) (Or.inr ⟨by rfl, rfl⟩) (by assumption) ?_
            try simp only [Act.put, List.getElem_toArray, List.getElem_cons_zero, List.getElem_cons_succ, List.setIfInBounds_toArray, List.set_cons_zero, List.set_cons_succ]
            refine wpAnyH_take (i := 29) (v := undef) rfl (by kernel_rfl) (by kernel_rfl) (by kernel_rfl) (fun _ _ _ h => h) (Or.inr ⟨by rfl, rfl⟩) (by assumption) ?_
            try simp only [Act.put, List.getElem_toArray, List.getElem_cons_zero, List.getElem_cons_succ, List.setIfInBounds_toArray, List.set_cons_zero, List.set_cons_succ]
            refine wpAnyH_take (i := 30) (v := undef) rfl (by kernel_rfl) (by kernel_rfl) (by kernel_rfl) (fun _ _ _ h => h) (Or.inr ⟨by rfl, rfl⟩) (by assumption) ?_
            try simp only [Act.put, List.getElem_toArray, List.getElem_cons_zero, List.getElem_cons_succ, List.setIfInBounds_toArray, List.set_cons_zero, List.set_cons_succ]
            refine wpAnyH_take (i := 31) (v := undef) rfl (by kernel_rfl) (by kernel_rfl) (by kernel_rfl) (fun _ _ _ h => h) (Or.inr ⟨by rfl, rfl⟩) (by assumption) ?_
            try simp only [Act.put, List.getElem_toArray, List.getElem_cons_zero, List.getElem_cons_succ, List.setIfInBounds_toArray, List.set_cons_zero, List.set_cons_succ]
            refine wpAnyH_take (i := 32) (v := undef) rfl (by kernel_rfl) (by kernel_rfl) (by kernel_rfl) (fun _ _ _ h => h) (Or.inr ⟨by rfl, rfl⟩) (by assumption) ?_
            try simp only [Act.put, List.getElem_toArray, List.getElem_cons_zero, List.getElem_cons_succ, List.setIfInBounds_toArray, List.set_cons_zero, List.set_cons_succ]
            refine wpAnyH_take (i := 33) (v := ?_) rfl (by kernel_rfl) (by kernel_rfl) (by kernel_rfl) (fun _ _ _ h => h) (Or.inl ⟨by rfl, ?_⟩) (by assumption) ?_
            rotate_left
            first | (focus ((intro w hSw; (try dsimp only at hSw); go_simp); (try with_reducible rfl); done)) | fail
            try simp only [Act.put, List.getElem_toArray, List.getElem_cons_zero, List.getElem_cons_succ, List.setIfInBounds_toArray, List.set_cons_zero, List.set_cons_succ]
            refine wpAnyH_done (by kernel_rfl) ?_ _
            go_wp2
            go_ret
            exact ⟨by rw [HV2.out, ovG_no HXj.out HX.out]; rfl, HEV1.out.2.2.1.drew.trans (below_of_le B5.out HEV1.out.2.2.2)⟩
          | true =>
            rw [hr] at CR
            have hr' : rightD ((x1, x2), x3) = true := hr
            clear hr
            cases hl : dLt ((p1, p2), p3) ((x1, x2), x3) with
            | false =>
              rw [hl] at CL
              have hl0 : dLt ((p1, p2), p3) ((x1, x2), x3) = false := hl
              clear hl
              have HX := Lib.hid (show okP ((o1, o2), o3) (prevAt none L (k + 1)) ((x1, x2), x3) = false from by rw [HPV.out]; unfold okP; simp only; rw [hl0, Bool.and_false, Bool.false_and])
              clear hl0 hr'
              refine wp_region_held_drew (S := (fun W => W.cell? ⟨D, 0, none⟩ = some (.int .i64 x1) ∧ W.cell? ⟨D, 1, none⟩ = some (.int .i64 x2) ∧ W.cell? ⟨D, 2, none⟩ = some (.int .i64 x3) ∧ W.cell? ⟨w.heap.size, 0, none⟩ = some (.int .i64 o1) ∧ W.cell? ⟨w.heap.size, 1, none⟩ = some (.int .i64 o2) ∧ W.cell? ⟨w.heap.size, 2, none⟩ = some (.int .i64 o3) ∧ W.cell? ⟨w.heap.size, 18, none⟩ = some (.slice (some ⟨b0, o0, none⟩) n c) ∧ W.cell? ⟨b0, o0 + k * 3, none⟩ = some (.int .i64 p1) ∧ W.cell? ⟨b0, o0 + k * 3 + 1, none⟩ = some (.int .i64 p2) ∧ W.cell? ⟨b0, o0 + k * 3 + 2, none⟩ = some (.int .i64 p3))) (by kernel_rfl) ?_ (fun hHeld => ?_)
              · (try dsimp only); exact HS.out
              refine wpAnyH_take (i := 0) (v := ?_) rfl (by kernel_rfl) (by kernel_rfl) (by kernel_rfl) (fun _ _ _ h => h) (Or.inl ⟨by rfl, ?_⟩) (by assumption) ?_
              rotate_left
              first | (focus ((intro w hSw; (try dsimp only at hSw); go_simp); (try with_reducible rfl); done)) | fail
              try simp only [Act.put, List.getElem_toArray, List.getElem_cons_zero, List.setIfInBounds_toArray, List.set_cons_zero, List.set_cons_succ]
              refine wpAnyH_ready (rs := [1]) (by kernel_rfl) (by simp) ?_
              refine AllReadyH.cons rfl (fun K hK => ?_) AllReadyH.nil
              go_simp
              refine (CR.out _).mono ?_; rintro r w5 ⟨rfl, b5⟩
              go_wp2_with fail
              refine hK.out _ _ ?_ (fun hHeld => ?_)
              · (try dsimp only); exact ⟨((below_of_le b5 hN0).cell hDl).trans hHeld.1, ((below_of_le b5 hN0).cell hDl).trans hHeld.2.1, ((below_of_le b5 hN0).cell hDl).trans hHeld.2.2.1, ((below_of_le b5 hN0).cell hEl).trans hHeld.2.2.2.1, ((below_of_le b5 hN0).cell hEl).trans hHeld.2.2.2.2.1, ((below_of_le b5 hN0).cell hEl).trans hHeld.2.2.2.2.2.1, ((below_of_le b5 hN0).cell hEl).trans hHeld.2.2.2.2.2.2.1, ((below_of_le b5 hN0).cell hbl).trans hHeld.2.2.2.2.2.2.2.1, ((below_of_le b5 hN0).cell hbl).trans hHeld.2.2.2.2.2.2.2.2.1, ((below_of_le b5 hN0).cell hbl).trans hHeld.2.2.2.2.2.2.2.2.2⟩
              clear hK K
              try simp only [Act.put, List.getElem_toArray, List.getElem_cons_zero, List.getElem_cons_succ, List.setIfInBounds_toArray, List.set_cons_zero, List.set_cons_succ]
              have B5 := Lib.hid (below_of_le b5 hN0)
              clear b5
              refine wpAnyH_take (i := 2) (v := ?_) rfl (by kernel_rfl) (by kernel_rfl) (by kernel_rfl) (fun _ _ _ h => h) (Or.inl ⟨by rfl, ?_⟩) (by assumption) ?_
              rotate_left
              first | (focus ((intro w hSw; (try dsimp only at hSw); go_simp); (try with_reducible rfl); done)) | fail
              try simp only [Act.put, List.getElem_toArray, List.getElem_cons_zero, List.getElem_cons_succ, List.setIfInBounds_toArray, List.set_cons_zero, List.set_cons_succ]
              refine wpAnyH_take (i := 3) (v := ?_) rfl (by kernel_rfl) (by kernel_rfl) (by kernel_rfl) (fun _ _ _ h => h) (Or.inl ⟨by rfl, ?_⟩) (by assumption) ?_
              rotate_left
              first | (focus ((intro w hSw; (try dsimp only at hSw); go_simp); (try with_reducible rfl); done)) | fail
              try simp only [Act.put, List.getElem_toArray, List.getElem_cons_zero, List.getElem_cons_succ, List.setIfInBounds_toArray, List.set_cons_zero, List.set_cons_succ]
              refine wpAnyH_take (i := 4) (v := ?_) rfl (by kernel_rfl) (by kernel_rfl) (by kernel_rfl) (fun _ _ _ h => h) (Or.inl ⟨by rfl, ?_⟩) (by assumption) ?_
              rotate_left
              first | (focus ((intro w hSw; (try dsimp only at hSw); go_simp); (try with_reducible rfl); done)) | fail
              try simp only [Act.put, List.getElem_toArray, List.getElem_cons_zero, List.getElem_cons_succ, List.setIfInBounds_toArray, List.set_cons_zero, List.set_cons_succ]
              refine wpAnyH_take (i := 5) (v := ?_) rfl (by kernel_rfl) (by kernel_rfl) (by kernel_rfl) (fun _ _ _ h => h) (Or.inl ⟨by rfl, ?_⟩) (by assumption) ?_
              rotate_left
              first | (focus ((intro w hSw; (try dsimp only at hSw); go_simp); (try with_reducible rfl); done)) | fail
              try simp only [Act.put, List.getElem_toArray, List.getElem_cons_zero, List.getElem_cons_succ, List.setIfInBounds_toArray, List.set_cons_zero, List.set_cons_succ]
              refine wpAnyH_take (i := 6) (v := ?_) rfl (by kernel_rfl) (by kernel_rfl) (by kernel_rfl) (fun _ _ _ h => h) (Or.inl ⟨by rfl, ?_⟩) (by assumption) ?_
              rotate_left
              first | (focus ((intro w hSw; (try dsimp only at hSw); go_simp); (try with_reducible rfl); done)) | fail
              try simp only [Act.put, List.getElem_toArray, List.getElem_cons_zero, List.getElem_cons_succ, List.setIfInBounds_toArray, List.set_cons_zero, List.set_cons_succ]
              refine wpAnyH_take (i := 7) (v := ?_) rfl (by kernel_rfl) (by kernel_rfl) (by kernel_rfl) (fun _ _ _ h => h) (Or.inl ⟨by rfl, ?_⟩) (by assumption) ?_
              rotate_left
              first | (focus ((intro w hSw; (try dsimp only at hSw); go_simp); (try with_reducible rfl); done)) | fail
              try simp only [Act.put, List.getElem_toArray, List.getElem_cons_zero, List.getElem_cons_succ, List.setIfInBounds_toArray, List.set_cons_zero, List.set_cons_succ]
              refine wpAnyH_take (i := 8) (v := ?_) rfl (by kernel_rfl) (by kernel_rfl) (by kernel_rfl) (fun _ _ _ h => h) (Or.inl ⟨by rfl, ?_⟩) (by assumption) ?_
              rotate_left
              first | (focus ((intro w hSw; (try dsimp only at hSw); go_simp); (try with_reducible rfl); done)) | fail
              try simp only [Act.put, List.getElem_toArray, List.getElem_cons_zero, List.getElem_cons_succ, List.setIfInBounds_toArray, List.set_cons_zero, List.set_cons_succ]
              refine wpAnyH_take (i := 9) (v := ?_) rfl (by kernel_rfl) (by kernel_rfl) (by kernel_rfl) (fun _ _ _ h => h) (Or.inl ⟨by rfl, ?_⟩) (by assumption) ?_
              rotate_left
              first | (focus ((intro w hSw; (try dsimp only at hSw); go_simp); (try with_reducible rfl); done)) | fail
              try simp only [Act.put, List.getElem_toArray, List.getElem_cons_zero, List.getElem_cons_succ, List.setIfInBounds_toArray, List.set_cons_zero, List.set_cons_succ]
              refine wpAnyH_take (i := 10) (v := ?_) rfl (by kernel_rfl) (by kernel_rfl) (by kernel_rfl) (fun _ _ _ h => h) (Or.inl ⟨by rfl, ?_⟩) (by assumption) ?_
              rotate_left
              first | (focus ((intro w hSw; (try dsimp only at hSw); go_simp); (try with_reducible rfl); done)) | fail
              try simp only [Act.put, List.getElem_toArray, List.getElem_cons_zero, List.getElem_cons_succ, List.setIfInBounds_toArray, List.set_cons_zero, List.set_cons_succ]
              refine wpAnyH_take (i := 11) (v := ?_) rfl (by kernel_rfl) (by kernel_rfl) (by kernel_rfl) (fun _ _ _ h => h) (Or.inl ⟨by rfl, ?_⟩) (by assumption) ?_
              rotate_left
              first | (focus ((intro w hSw; (try dsimp only at hSw); go_simp); (try with_reducible rfl); done)) | fail
              try simp only [Act.put, List.getElem_toArray, List.getElem_cons_zero, List.getElem_cons_succ, List.setIfInBounds_toArray, List.set_cons_zero, List.set_cons_succ]
              refine wpAnyH_take (i := 12) (v := ?_) rfl (by kernel_rfl) (by kernel_rfl) (by kernel_rfl) (fun _ _ _ h => h) (Or.inl ⟨by rfl, ?_⟩) (by assumption) ?_
              rotate_left
              first | (focus ((intro w hSw; (try dsimp only at hSw); go_simp); (try with_reducible rfl); done)) | fail
              try simp only [Act.put, List.getElem_toArray, List.getElem_cons_zero, List.getElem_cons_succ, List.setIfInBounds_toArray, List.set_cons_zero, List.set_cons_succ]
              refine wpAnyH_take (i := 13) (v := ?_) rfl (by kernel_rfl) (by kernel_rfl) (by kernel_rfl) (fun _ _ _ h => h) (Or.inl ⟨by rfl, ?_⟩) (by assumption) ?_
              rotate_left
              first | (focus ((intro w hSw; (try dsimp only at hSw); go_simp); (try with_reducible rfl); done)) | fail
              try simp only [Act.put, List.getElem_toArray, List.getElem_cons_zero, List.getElem_cons_succ, List.setIfInBounds_toArray, List.set_cons_zero, List.set_cons_succ]
              refine wpAnyH_ready (rs := [14]) (by kernel_rfl) (by simp) ?_
              refine AllReadyH.cons rfl (fun K hK => ?_) AllReadyH.nil
              go_simp
              refine (CL.out _).mono ?_; rintro r w6 ⟨rfl, b6⟩
              go_wp2_with fail
              refine hK.out _ _ ?_ (fun hHeld => ?_)
              · (try dsimp only); exact ⟨((below_of_le b6 (Nat.le_trans hN0 B5.out.size)).cell hDl).trans hHeld.1, ((below_of_le b6 (Nat.le_trans hN0 B5.out.size)).cell hDl).trans hHeld.2.1, ((below_of_le b6 (Nat.le_trans hN0 B5.out.size)).cell hDl).trans hHeld.2.2.1, ((below_of_le b6 (Nat.le_trans hN0 B5.out.size)).cell hEl).trans hHeld.2.2.2.1, ((below_of_le b6 (Nat.le_trans hN0 B5.out.size)).cell hEl).trans hHeld.2.2.2.2.1, ((below_of_le b6 (Nat.le_trans hN0 B5.out.size)).cell hEl).trans hHeld.2.2.2.2.2.1, ((below_of_le b6 (Nat.le_trans hN0 B5.out.size)).cell hEl).trans hHeld.2.2.2.2.2.2.1, ((below_of_le b6 (Nat.le_trans hN0 B5.out.size)).cell hbl).trans hHeld.2.2.2.2.2.2.2.1, ((below_of_le b6 (Nat.le_trans hN0 B5.out.size)).cell hbl).trans hHeld.2.2.2.2.2.2.2.2.1, ((below_of_le b6 (Nat.le_trans hN0 B5.out.size)).cell hbl).trans hHeld.2.2.2.2.2.2.2.2.2⟩
              clear hK K
              try simp only [Act.put, List.getElem_toArray, List.getElem_cons_zero, List.getElem_cons_succ, List.setIfInBounds_toArray, List.set_cons_zero, List.set_cons_succ]
              have B6 := Lib.hid (B5.out.trans (below_of_le b6 (Nat.le_trans hN0 B5.out.size)))
              clear b6
              refine wpAnyH_take (i := 15) (v := ?_) rfl (by kernel_rfl) (by kernel_rfl) (by kernel_rfl) (fun _ _ _ h => h) (Or.inl ⟨by rfl, ?_⟩) (by assumption) ?_
              rotate_left
              first | (focus ((intro w hSw; (try dsimp only at hSw); go_simp); (try with_reducible rfl); done)) | fail
              try simp only [Act.put, List.getElem_toArray, List.getElem_cons_zero, List.getElem_cons_succ, List.setIfInBounds_toArray, List.set_cons_zero, List.set_cons_succ]
              refine wpAnyH_take (i := 16) (v := ?_) rfl (by kernel_rfl) (by kernel_rfl) (by kernel_rfl) (fun _ _ _ h => h) (Or.inl ⟨by rfl, ?_⟩) (by assumption) ?_
              rotate_left
              first | (focus ((intro w hSw; (try dsimp only at hSw); go_simp); (try with_reducible rfl); done)) | fail
              try simp only [Act.put, List.getElem_toArray, List.getElem_cons_zero, List.getElem_cons_succ, List.setIfInBounds_toArray, List.set_cons_zero, List.set_cons_succ]
              refine wpAnyH_take (i := 17) (v := ?_) rfl (by kernel_rfl) (by kernel_rfl) (by kernel_rfl) (fun _ _ _ h => h) (Or.inl ⟨by rfl, ?_⟩) (by assumption) ?_
              rotate_left
              first | (focus ((intro w hSw; (try dsimp only at hSw); go_simp); (try with_reducible rfl); done)) | fail
              try simp only [Act.put, List.getElem_toArray, List.getElem_cons_zero, List.getElem_cons_succ, List.setIfInBounds_toArray, List.set_cons_zero, List.set_cons_succ]
              refine wpAnyH_take (i := 18) (v := ?_) rfl (by kernel_rfl) (by kernel_rfl) (by kernel_rfl) (fun _ _ _ h => h) (Or.inl ⟨by rfl, ?_⟩) (by assumption) ?_
              rotate_left
              first | (focus ((intro w hSw; (try dsimp only at hSw); go_simp); (try with_reducible rfl); done)) | fail
              try simp only [Act.put, List.getElem_toArray, List.getElem_cons_zero, List.getElem_cons_succ, List.setIfInBounds_toArray, List.set_cons_zero, List.set_cons_succ]
              refine wpAnyH_take (i := 19) (v := undef) rfl (by kernel_rfl) (by kernel_rfl) (by kernel_rfl) (fun _ _ _ h => h) (Or.inr ⟨by rfl, rfl⟩) (by assumption) ?_
              try simp only [Act.put, List.getElem_toArray, List.getElem_cons_zero, List.getElem_cons_succ, List.setIfInBounds_toArray, List.set_cons_zero, List.set_cons_succ]
              refine wpAnyH_take (i := 20) (v := undef) rfl (by kernel_rfl) (by kernel_rfl) (by kernel_rfl) (fun _ _ _ h => h) (Or.inr ⟨by rfl, rfl⟩) (by assumption) ?_
              try simp only [Act.put, List.getElem_toArray, List.getElem_cons_zero, List.getElem_cons_succ, List.setIfInBounds_toArray, List.set_cons_zero, List.set_cons_succ]
              refine wpAnyH_take (i := 21) (v := undef) rfl (by kernel_rfl) (by kernel_rfl) (by kernel_rfl) (fun _ _ _ h => h) (Or.inr ⟨by rfl, rfl⟩) (by assumption) ?_
              try simp only [Act.put, List.getElem_toArray, List.getElem_cons_zero, List.getElem_cons_succ, List.setIfInBounds_toArray, List.set_cons_zero, List.set_cons_succ]
              refine wpAnyH_take (i := 22) (v := undef) rfl (by kernel_rfl) (by kernel_rfl) (by kernel_rfl) (fun _ _ _ h => h) (Or.inr ⟨by rfl, rfl⟩) (by assumption) ?_
              try simp only [Act.put, List.getElem_toArray, List.getElem_cons_zero, List.getElem_cons_succ, List.setIfInBounds_toArray, List.set_cons_zero, List.set_cons_succ]
              refine wpAnyH_take (i := 23) (v := undef) rfl (by kernel_rfl) (by kernel_rfl) (by kernel_rfl) (fun _ _ _ h => h) (Or.inr ⟨by rfl, rfl⟩) (by assumption) ?_
              try simp only [Act.put, List.getElem_toArray, List.getElem_cons_zero, List.getElem_cons_succ, List.setIfInBounds_toArray, List.set_cons_zero, List.set_cons_succ]
              refine wpAnyH_take (i := 24) (v := undef) rfl (by kernel_rfl) (by kernel_rfl) (by kernel_rfl) (fun _ _ _ h => h) (Or.inr ⟨by rfl, rfl⟩) (by assumption) ?_
              try simp only [Act.put, List.getElem_toArray, List.getElem_cons_zero, List.getElem_cons_succ, List.setIfInBounds_toArray, List.set_cons_zero, List.set_cons_succ]
              refine wpAnyH_take (i := 25) (v := undef) rfl (by kernel_rfl) (by kernel_rfl) (by kernel_rfl) (fun _ _ _ h => h) (Or.inr ⟨by rfl, rfl⟩) (by assumption) ?_
              try simp only [Act.put, List.getElem_toArray, List.getElem_cons_zero, List.getElem_cons_succ, List.setIfInBounds_toArray, List.set_cons_zero, List.set_cons_succ]
              refine wpAnyH_take (i := 26) (v := undef) rfl (by kernel_rfl) (by kernel_rfl) (by kernel_rfl) (fun _ _ _ h => h) (Or.inr ⟨by rfl, rfl⟩) (by assumption) ?_
              try simp only [Act.put, List.getElem_toArray, List.getElem_cons_zero, List.getElem_cons_succ, List.setIfInBounds_toArray, List.set_cons_zero, List.set_cons_succ]
              refine wpAnyH_take (i := 27) (v := undef) rfl (by kernel_rfl) (by kernel_rfl) (by kernel_rfl) (fun _ _ _ h => h) (Or.inr ⟨by rfl, rfl⟩) (by assumption) ?_
              try simp only [Act.put, List.getElem_toArray, List.getElem_cons_zero, List.getElem_cons_succ, List.setIfInBounds_toArray, List.set_cons_zero, List.set_cons_succ]
              refine wpAnyH_take (i := 28) (v := undef) rfl (by kernel_rfl) (by kernel_rfl) (by kernel_rfl) (fun _ _ _ h => h) (Or.inr ⟨by rfl, rfl⟩) (by assumption) ?_
              try simp only [Act.put, List.getElem_toArray, List.getElem_cons_zero, List.getElem_cons_succ, List.setIfInBounds_toArray, List.set_cons_zero, List.set_cons_succ]
              refine wpAnyH_take (i := 29) (v := undef) rfl (by kernel_rfl) (by kernel_rfl) (by kernel_rfl) (fun _ _ _ h => h) (Or.inr ⟨by rfl, rfl⟩) (by assumption) ?_
              try simp only [Act.put, List.getElem_toArray, List.getElem_cons_zero, List.getElem_cons_succ, List.setIfInBounds_toArray, List.set_cons_zero, List.set_cons_succ]
              refine wpAnyH_take (i := 30) (v := undef) rfl (by kernel_rfl) (by kernel_rfl) (by kernel_rfl) (fun _ _ _ h => h) (Or.inr ⟨by rfl, rfl⟩) (by assumption) ?_
              try simp only [Act.put, List.getElem_toArray, List.getElem_cons_zero, List.getElem_cons_succ, List.setIfInBounds_toArray, List.set_cons_zero, List.set_cons_succ]
              refine wpAnyH_take (i := 31) (v := undef) rfl (by kernel_rfl) (by kernel_rfl) (by kernel_rfl) (fun _ _ _ h => h) (Or.inr ⟨by rfl, rfl⟩) (by assumption) ?_
              try simp only [Act.put, List.getElem_toArray, List.getElem_cons_zero, List.getElem_cons_succ, List.setIfInBounds_toArray, List.set_cons_zero, List.set_cons_succ]
              refine wpAnyH_take (i := 32) (v := undef) rfl (by kernel_rfl) (by kernel_rfl) (by kernel_rfl) (fun _ _ _ h => h) (Or.inr ⟨by rfl, rfl⟩) (by assumption) ?_
              try simp only [Act.put, List.getElem_toArray, List.getElem_cons_zero, List.getElem_cons_succ, List.setIfInBounds_toArray, List.set_cons_zero, List.set_cons_succ]
              refine wpAnyH_take (i := 33) (v := ?_) rfl (by kernel_rfl) (by kernel_rfl) (by kernel_rfl) (fun _ _ _ h => h) (Or.inl ⟨by rfl, ?_⟩) (by assumption) ?_
              rotate_left
              first | (focus ((intro w hSw; (try dsimp only at hSw); go_simp); (try with_reducible rfl); done)) | fail
              try simp only [Act.put, List.getElem_toArray, List.getElem_cons_zero, List.getElem_cons_succ, List.setIfInBounds_toArray, List.set_cons_zero, List.set_cons_succ]
              refine wpAnyH_done (by kernel_rfl) ?_ _
              go_wp2
              go_ret
              exact ⟨by rw [HV2.out, ovG_no HXj.out HX.out]; rfl, HEV1.out.2.2.1.drew.trans (below_of_le B6.out HEV1.out.2.2.2)⟩
            | true =>
              rw [hl] at CL
              have hl0 : dLt ((p1, p2), p3) ((x1, x2), x3) = true := hl
              clear hl
              by_cases hq : x1 = o1 ∧ x2 = o2
              · have hEq : ∀ w : World, (binOp .eql 48 (.agg #[.int .i64 x1, .int .i64 x2]) (.agg #[.int .i64 o1, .int .i64 o2])).run Tryz.prog w = .ok (.bool true) w := fun w => by have h := eql_act x1 x2 o1 o2 w; unfold actV at h; rw [decide_eq_true hq] at h; exact h
                have hq1 : decide (((x1, x2) : Ac) = (o1, o2)) = true := decide_eq_true (Prod.ext hq.1 hq.2)
                clear hq
                by_cases hs : o3 ≤ x3
                · have hs1 : decide (o3 ≤ x3) = true := decide_eq_true hs
                  have HX := Lib.hid (show okP ((o1, o2), o3) (prevAt none L (k + 1)) ((x1, x2), x3) = false from by rw [HPV.out]; unfold okP; simp only; rw [hr', hq1, hl0, hs1]; rfl)
                  clear hq1 hr' hl0
                  refine wp_region_held_drew (S := (fun W => W.cell? ⟨D, 0, none⟩ = some (.int .i64 x1) ∧ W.cell? ⟨D, 1, none⟩ = some (.int .i64 x2) ∧ W.cell? ⟨D, 2, none⟩ = some (.int .i64 x3) ∧ W.cell? ⟨w.heap.size, 0, none⟩ = some (.int .i64 o1) ∧ W.cell? ⟨w.heap.size, 1, none⟩ = some (.int .i64 o2) ∧ W.cell? ⟨w.heap.size, 2, none⟩ = some (.int .i64 o3) ∧ W.cell? ⟨w.heap.size, 18, none⟩ = some (.slice (some ⟨b0, o0, none⟩) n c) ∧ W.cell? ⟨b0, o0 + k * 3, none⟩ = some (.int .i64 p1) ∧ W.cell? ⟨b0, o0 + k * 3 + 1, none⟩ = some (.int .i64 p2) ∧ W.cell? ⟨b0, o0 + k * 3 + 2, none⟩ = some (.int .i64 p3))) (by kernel_rfl) ?_ (fun hHeld => ?_)
                  · (try dsimp only); exact HS.out
                  refine wpAnyH_take (i := 0) (v := ?_) rfl (by kernel_rfl) (by kernel_rfl) (by kernel_rfl) (fun _ _ _ h => h) (Or.inl ⟨by rfl, ?_⟩) (by assumption) ?_
                  rotate_left
                  first | (focus ((intro w hSw; (try dsimp only at hSw); go_simp); (try with_reducible rfl); done)) | fail
                  try simp only [Act.put, List.getElem_toArray, List.getElem_cons_zero, List.setIfInBounds_toArray, List.set_cons_zero, List.set_cons_succ]
                  refine wpAnyH_ready (rs := [1]) (by kernel_rfl) (by simp) ?_
                  refine AllReadyH.cons rfl (fun K hK => ?_) AllReadyH.nil
                  go_simp
                  refine (CR.out _).mono ?_; rintro r w5 ⟨rfl, b5⟩
                  go_wp2_with fail
                  refine hK.out _ _ ?_ (fun hHeld => ?_)
                  · (try dsimp only); exact ⟨((below_of_le b5 hN0).cell hDl).trans hHeld.1, ((below_of_le b5 hN0).cell hDl).trans hHeld.2.1, ((below_of_le b5 hN0).cell hDl).trans hHeld.2.2.1, ((below_of_le b5 hN0).cell hEl).trans hHeld.2.2.2.1, ((below_of_le b5 hN0).cell hEl).trans hHeld.2.2.2.2.1, ((below_of_le b5 hN0).cell hEl).trans hHeld.2.2.2.2.2.1, ((below_of_le b5 hN0).cell hEl).trans hHeld.2.2.2.2.2.2.1, ((below_of_le b5 hN0).cell hbl).trans hHeld.2.2.2.2.2.2.2.1, ((below_of_le b5 hN0).cell hbl).trans hHeld.2.2.2.2.2.2.2.2.1, ((below_of_le b5 hN0).cell hbl).trans hHeld.2.2.2.2.2.2.2.2.2⟩
                  clear hK K
                  try simp only [Act.put, List.getElem_toArray, List.getElem_cons_zero, List.getElem_cons_succ, List.setIfInBounds_toArray, List.set_cons_zero, List.set_cons_succ]
                  have B5 := Lib.hid (below_of_le b5 hN0)
                  clear b5
                  refine wpAnyH_take (i := 2) (v := ?_) rfl (by kernel_rfl) (by kernel_rfl) (by kernel_rfl) (fun _ _ _ h => h) (Or.inl ⟨by rfl, ?_⟩) (by assumption) ?_
                  rotate_left
                  first | (focus ((intro w hSw; (try dsimp only at hSw); go_simp); (try with_reducible rfl); done)) | fail
                  try simp only [Act.put, List.getElem_toArray, List.getElem_cons_zero, List.getElem_cons_succ, List.setIfInBounds_toArray, List.set_cons_zero, List.set_cons_succ]
                  refine wpAnyH_take (i := 3) (v := ?_) rfl (by kernel_rfl) (by kernel_rfl) (by kernel_rfl) (fun _ _ _ h => h) (Or.inl ⟨by rfl, ?_⟩) (by assumption) ?_
                  rotate_left
                  first | (focus ((intro w hSw; (try dsimp only at hSw); go_simp); (try with_reducible rfl); done)) | fail
                  try simp only [Act.put, List.getElem_toArray, List.getElem_cons_zero, List.getElem_cons_succ, List.setIfInBounds_toArray, List.set_cons_zero, List.set_cons_succ]
                  refine wpAnyH_take (i := 4) (v := ?_) rfl (by kernel_rfl) (by kernel_rfl) (by kernel_rfl) (fun _ _ _ h => h) (Or.inl ⟨by rfl, ?_⟩) (by assumption) ?_
                  rotate_left
                  first | (focus ((intro w hSw; (try dsimp only at hSw); go_simp); (try with_reducible rfl); done)) | fail
                  try simp only [Act.put, List.getElem_toArray, List.getElem_cons_zero, List.getElem_cons_succ, List.setIfInBounds_toArray, List.set_cons_zero, List.set_cons_succ]
                  refine wpAnyH_take (i := 5) (v := ?_) rfl (by kernel_rfl) (by kernel_rfl) (by kernel_rfl) (fun _ _ _ h => h) (Or.inl ⟨by rfl, ?_⟩) (by assumption) ?_
                  rotate_left
                  first | (focus ((intro w hSw; (try dsimp only at hSw); go_simp); (try with_reducible rfl); done)) | fail
                  try simp only [Act.put, List.getElem_toArray, List.getElem_cons_zero, List.getElem_cons_succ, List.setIfInBounds_toArray, List.set_cons_zero, List.set_cons_succ]
                  refine wpAnyH_take (i := 6) (v := ?_) rfl (by kernel_rfl) (by kernel_rfl) (by kernel_rfl) (fun _ _ _ h => h) (Or.inl ⟨by rfl, ?_⟩) (by assumption) ?_
                  rotate_left
                  first | (focus ((intro w hSw; (try dsimp only at hSw); go_simp); (try with_reducible rfl); done)) | fail
                  try simp only [Act.put, List.getElem_toArray, List.getElem_cons_zero, List.getElem_cons_succ, List.setIfInBounds_toArray, List.set_cons_zero, List.set_cons_succ]
                  refine wpAnyH_take (i := 7) (v := ?_) rfl (by kernel_rfl) (by kernel_rfl) (by kernel_rfl) (fun _ _ _ h => h) (Or.inl ⟨by rfl, ?_⟩) (by assumption) ?_
                  rotate_left
                  first | (focus ((intro w hSw; (try dsimp only at hSw); go_simp); (try with_reducible rfl); done)) | fail
                  try simp only [Act.put, List.getElem_toArray, List.getElem_cons_zero, List.getElem_cons_succ, List.setIfInBounds_toArray, List.set_cons_zero, List.set_cons_succ]
                  refine wpAnyH_take (i := 8) (v := ?_) rfl (by kernel_rfl) (by kernel_rfl) (by kernel_rfl) (fun _ _ _ h => h) (Or.inl ⟨by rfl, ?_⟩) (by assumption) ?_
                  rotate_left
                  first | (focus ((intro w hSw; (try dsimp only at hSw); go_simp); (try with_reducible rfl); done)) | fail
                  try simp only [Act.put, List.getElem_toArray, List.getElem_cons_zero, List.getElem_cons_succ, List.setIfInBounds_toArray, List.set_cons_zero, List.set_cons_succ]
                  refine wpAnyH_take (i := 9) (v := ?_) rfl (by kernel_rfl) (by kernel_rfl) (by kernel_rfl) (fun _ _ _ h => h) (Or.inl ⟨by rfl, ?_⟩) (by assumption) ?_
                  rotate_left
                  first | (focus ((intro w hSw; (try dsimp only at hSw); go_simp); (try with_reducible rfl); done)) | fail
                  try simp only [Act.put, List.getElem_toArray, List.getElem_cons_zero, List.getElem_cons_succ, List.setIfInBounds_toArray, List.set_cons_zero, List.set_cons_succ]
                  refine wpAnyH_take (i := 10) (v := ?_) rfl (by kernel_rfl) (by kernel_rfl) (by kernel_rfl) (fun _ _ _ h => h) (Or.inl ⟨by rfl, ?_⟩) (by assumption) ?_
                  rotate_left
                  first | (focus ((intro w hSw; (try dsimp only at hSw); go_simp); (try with_reducible rfl); done)) | fail
                  try simp only [Act.put, List.getElem_toArray, List.getElem_cons_zero, List.getElem_cons_succ, List.setIfInBounds_toArray, List.set_cons_zero, List.set_cons_succ]
                  refine wpAnyH_take (i := 11) (v := ?_) rfl (by kernel_rfl) (by kernel_rfl) (by kernel_rfl) (fun _ _ _ h => h) (Or.inl ⟨by rfl, ?_⟩) (by assumption) ?_
                  rotate_left
                  first | (focus ((intro w hSw; (try dsimp only at hSw); go_simp); (try with_reducible rfl); done)) | fail
                  try simp only [Act.put, List.getElem_toArray, List.getElem_cons_zero, List.getElem_cons_succ, List.setIfInBounds_toArray, List.set_cons_zero, List.set_cons_succ]
                  refine wpAnyH_take (i := 12) (v := ?_) rfl (by kernel_rfl) (by kernel_rfl) (by kernel_rfl) (fun _ _ _ h => h) (Or.inl ⟨by rfl, ?_⟩) (by assumption) ?_
                  rotate_left
                  first | (focus ((intro w hSw; (try dsimp only at hSw); go_simp); (try with_reducible rfl); done)) | fail
                  try simp only [Act.put, List.getElem_toArray, List.getElem_cons_zero, List.getElem_cons_succ, List.setIfInBounds_toArray, List.set_cons_zero, List.set_cons_succ]
                  refine wpAnyH_take (i := 13) (v := ?_) rfl (by kernel_rfl) (by kernel_rfl) (by kernel_rfl) (fun _ _ _ h => h) (Or.inl ⟨by rfl, ?_⟩) (by assumption) ?_
                  rotate_left
                  first | (focus ((intro w hSw; (try dsimp only at hSw); go_simp); (try with_reducible rfl); done)) | fail
                  try simp only [Act.put, List.getElem_toArray, List.getElem_cons_zero, List.getElem_cons_succ, List.setIfInBounds_toArray, List.set_cons_zero, List.set_cons_succ]
                  refine wpAnyH_ready (rs := [14]) (by kernel_rfl) (by simp) ?_
                  refine AllReadyH.cons rfl (fun K hK => ?_) AllReadyH.nil
                  go_simp
                  refine (CL.out _).mono ?_; rintro r w6 ⟨rfl, b6⟩
                  go_wp2_with fail
                  refine hK.out _ _ ?_ (fun hHeld => ?_)
                  · (try dsimp only); exact ⟨((below_of_le b6 (Nat.le_trans hN0 B5.out.size)).cell hDl).trans hHeld.1, ((below_of_le b6 (Nat.le_trans hN0 B5.out.size)).cell hDl).trans hHeld.2.1, ((below_of_le b6 (Nat.le_trans hN0 B5.out.size)).cell hDl).trans hHeld.2.2.1, ((below_of_le b6 (Nat.le_trans hN0 B5.out.size)).cell hEl).trans hHeld.2.2.2.1, ((below_of_le b6 (Nat.le_trans hN0 B5.out.size)).cell hEl).trans hHeld.2.2.2.2.1, ((below_of_le b6 (Nat.le_trans hN0 B5.out.size)).cell hEl).trans hHeld.2.2.2.2.2.1, ((below_of_le b6 (Nat.le_trans hN0 B5.out.size)).cell hEl).trans hHeld.2.2.2.2.2.2.1, ((below_of_le b6 (Nat.le_trans hN0 B5.out.size)).cell hbl).trans hHeld.2.2.2.2.2.2.2.1, ((below_of_le b6 (Nat.le_trans hN0 B5.out.size)).cell hbl).trans hHeld.2.2.2.2.2.2.2.2.1, ((below_of_le b6 (Nat.le_trans hN0 B5.out.size)).cell hbl).trans hHeld.2.2.2.2.2.2.2.2.2⟩
                  clear hK K
                  try simp only [Act.put, List.getElem_toArray, List.getElem_cons_zero, List.getElem_cons_succ, List.setIfInBounds_toArray, List.set_cons_zero, List.set_cons_succ]
                  have B6 := Lib.hid (B5.out.trans (below_of_le b6 (Nat.le_trans hN0 B5.out.size)))
                  clear b6
                  refine wpAnyH_take (i := 15) (v := ?_) rfl (by kernel_rfl) (by kernel_rfl) (by kernel_rfl) (fun _ _ _ h => h) (Or.inl ⟨by rfl, ?_⟩) (by assumption) ?_
                  rotate_left
                  first | (focus ((intro w hSw; (try dsimp only at hSw); go_simp); (try with_reducible rfl); done)) | fail
                  try simp only [Act.put, List.getElem_toArray, List.getElem_cons_zero, List.getElem_cons_succ, List.setIfInBounds_toArray, List.set_cons_zero, List.set_cons_succ]
                  refine wpAnyH_take (i := 16) (v := ?_) rfl (by kernel_rfl) (by kernel_rfl) (by kernel_rfl) (fun _ _ _ h => h) (Or.inl ⟨by rfl, ?_⟩) (by assumption) ?_
                  rotate_left
                  first | (focus ((intro w hSw; (try dsimp only at hSw); go_simp); (try with_reducible rfl); done)) | fail
                  try simp only [Act.put, List.getElem_toArray, List.getElem_cons_zero, List.getElem_cons_succ, List.setIfInBounds_toArray, List.set_cons_zero, List.set_cons_succ]
                  refine wpAnyH_take (i := 17) (v := ?_) rfl (by kernel_rfl) (by kernel_rfl) (by kernel_rfl) (fun _ _ _ h => h) (Or.inl ⟨by rfl, ?_⟩) (by assumption) ?_
                  rotate_left
                  first | (focus ((intro w hSw; (try dsimp only at hSw); go_simp); (try with_reducible rfl); done)) | fail
                  try simp only [Act.put, List.getElem_toArray, List.getElem_cons_zero, List.getElem_cons_succ, List.setIfInBounds_toArray, List.set_cons_zero, List.set_cons_succ]
                  refine wpAnyH_take (i := 18) (v := ?_) rfl (by kernel_rfl) (by kernel_rfl) (by kernel_rfl) (fun _ _ _ h => h) (Or.inl ⟨by rfl, ?_⟩) (by assumption) ?_
                  rotate_left
                  first | (focus ((intro w hSw; (try dsimp only at hSw); go_simp); (try with_reducible rfl); done)) | fail
                  try simp only [Act.put, List.getElem_toArray, List.getElem_cons_zero, List.getElem_cons_succ, List.setIfInBounds_toArray, List.set_cons_zero, List.set_cons_succ]
                  refine wpAnyH_take (i := 19) (v := ?_) rfl (by kernel_rfl) (by kernel_rfl) (by kernel_rfl) (fun _ _ _ h => h) (Or.inl ⟨by rfl, ?_⟩) (by assumption) ?_
                  rotate_left
                  first | (focus ((intro w hSw; (try dsimp only at hSw); go_simp); (try with_reducible rfl); done)) | fail
                  try simp only [Act.put, List.getElem_toArray, List.getElem_cons_zero, List.getElem_cons_succ, List.setIfInBounds_toArray, List.set_cons_zero, List.set_cons_succ]
                  refine wpAnyH_take (i := 20) (v := ?_) rfl (by kernel_rfl) (by kernel_rfl) (by kernel_rfl) (fun _ _ _ h => h) (Or.inl ⟨by rfl, ?_⟩) (by assumption) ?_
                  rotate_left
                  first | (focus ((intro w hSw; (try dsimp only at hSw); go_simp); (try with_reducible rfl); done)) | fail
                  try simp only [Act.put, List.getElem_toArray, List.getElem_cons_zero, List.getElem_cons_succ, List.setIfInBounds_toArray, List.set_cons_zero, List.set_cons_succ]
                  refine wpAnyH_take (i := 21) (v := ?_) rfl (by kernel_rfl) (by kernel_rfl) (by kernel_rfl) (fun _ _ _ h => h) (Or.inl ⟨by rfl, ?_⟩) (by assumption) ?_
                  rotate_left
                  first | (focus ((intro w hSw; (try dsimp only at hSw); go_simp); (try with_reducible rfl); done)) | fail
                  try simp only [Act.put, List.getElem_toArray, List.getElem_cons_zero, List.getElem_cons_succ, List.setIfInBounds_toArray, List.set_cons_zero, List.set_cons_succ]
                  refine wpAnyH_take (i := 22) (v := ?_) rfl (by kernel_rfl) (by kernel_rfl) (by kernel_rfl) (fun _ _ _ h => h) (Or.inl ⟨by rfl, ?_⟩) (by assumption) ?_
                  rotate_left
                  first | (focus ((intro w hSw; (try dsimp only at hSw); go_simp); (try with_reducible rfl); done)) | fail
                  try simp only [Act.put, List.getElem_toArray, List.getElem_cons_zero, List.getElem_cons_succ, List.setIfInBounds_toArray, List.set_cons_zero, List.set_cons_succ]
                  refine wpAnyH_take (i := 23) (v := ?_) rfl (by kernel_rfl) (by kernel_rfl) (by kernel_rfl) (fun _ _ _ h => h) (Or.inl ⟨by rfl, ?_⟩) (by assumption) ?_
                  rotate_left
                  first | (focus ((intro w hSw; (try dsimp only at hSw); go_simp); (try with_reducible rfl); done)) | fail
                  try simp only [Act.put, List.getElem_toArray, List.getElem_cons_zero, List.getElem_cons_succ, List.setIfInBounds_toArray, List.set_cons_zero, List.set_cons_succ]
                  refine wpAnyH_take (i := 24) (v := ?_) rfl (by kernel_rfl) (by kernel_rfl) (by kernel_rfl) (fun _ _ _ h => h) (Or.inl ⟨by rfl, ?_⟩) (by assumption) ?_
                  rotate_left
                  first | (focus ((intro w hSw; (try dsimp only at hSw); go_simp); (try with_reducible rfl); done)) | fail
                  try simp only [Act.put, List.getElem_toArray, List.getElem_cons_zero, List.getElem_cons_succ, List.setIfInBounds_toArray, List.set_cons_zero, List.set_cons_succ]
                  refine wpAnyH_take (i := 25) (v := ?_) rfl (by kernel_rfl) (by kernel_rfl) (by kernel_rfl) (fun _ _ _ h => h) (Or.inl ⟨by rfl, ?_⟩) (by assumption) ?_
                  rotate_left
                  first | (focus ((intro w hSw; (try dsimp only at hSw); go_simp); (try with_reducible rfl); done)) | fail
                  try simp only [Act.put, List.getElem_toArray, List.getElem_cons_zero, List.getElem_cons_succ, List.setIfInBounds_toArray, List.set_cons_zero, List.set_cons_succ]
                  refine wpAnyH_take (i := 26) (v := ?_) rfl (by kernel_rfl) (by kernel_rfl) (by kernel_rfl) (fun _ _ _ h => h) (Or.inl ⟨by rfl, ?_⟩) (by assumption) ?_
                  rotate_left
                  first | (focus ((intro w hSw; (try dsimp only at hSw); go_simp); (try with_reducible rfl); done)) | fail
                  try simp only [Act.put, List.getElem_toArray, List.getElem_cons_zero, List.getElem_cons_succ, List.setIfInBounds_toArray, List.set_cons_zero, List.set_cons_succ]
                  refine wpAnyH_take (i := 27) (v := ?_) rfl (by kernel_rfl) (by kernel_rfl) (by kernel_rfl) (fun _ _ _ h => h) (Or.inl ⟨by rfl, ?_⟩) (by assumption) ?_
                  rotate_left
                  first | (focus ((intro w hSw; (try dsimp only at hSw); go_simp); (try with_reducible rfl); done)) | fail
                  try simp only [Act.put, List.getElem_toArray, List.getElem_cons_zero, List.getElem_cons_succ, List.setIfInBounds_toArray, List.set_cons_zero, List.set_cons_succ]
                  refine wpAnyH_take (i := 28) (v := ?_) rfl (by kernel_rfl) (by kernel_rfl) (by kernel_rfl) (fun _ _ _ h => h) (Or.inl ⟨by rfl, ?_⟩) (by assumption) ?_
                  rotate_left
                  first | (focus ((intro w hSw; (try dsimp only at hSw); go_simp); (try with_reducible rfl); done)) | fail
                  try simp only [Act.put, List.getElem_toArray, List.getElem_cons_zero, List.getElem_cons_succ, List.setIfInBounds_toArray, List.set_cons_zero, List.set_cons_succ]
                  refine wpAnyH_take (i := 29) (v := ?_) rfl (by kernel_rfl) (by kernel_rfl) (by kernel_rfl) (fun _ _ _ h => h) (Or.inl ⟨by rfl, ?_⟩) (by assumption) ?_
                  rotate_left
                  first | (focus ((intro w hSw; (try dsimp only at hSw); go_simp); (try with_reducible rfl); done)) | fail
                  try simp only [Act.put, List.getElem_toArray, List.getElem_cons_zero, List.getElem_cons_succ, List.setIfInBounds_toArray, List.set_cons_zero, List.set_cons_succ]
                  refine wpAnyH_take (i := 30) (v := ?_) rfl (by kernel_rfl) (by kernel_rfl) (by kernel_rfl) (fun _ _ _ h => h) (Or.inl ⟨by rfl, ?_⟩) (by assumption) ?_
                  rotate_left
                  first | (focus ((intro w hSw; (try dsimp only at hSw); go_simp); (try with_reducible rfl); done)) | fail
                  try simp only [Act.put, List.getElem_toArray, List.getElem_cons_zero, List.getElem_cons_succ, List.setIfInBounds_toArray, List.set_cons_zero, List.set_cons_succ]
                  refine wpAnyH_take (i := 31) (v := ?_) rfl (by kernel_rfl) (by kernel_rfl) (by kernel_rfl) (fun _ _ _ h => h) (Or.inl ⟨by rfl, ?_⟩) (by assumption) ?_
                  rotate_left
                  first | (focus ((intro w hSw; (try dsimp only at hSw); go_simp); (try with_reducible rfl); done)) | fail
                  try simp only [Act.put, List.getElem_toArray, List.getElem_cons_zero, List.getElem_cons_succ, List.setIfInBounds_toArray, List.set_cons_zero, List.set_cons_succ]
                  refine wpAnyH_take (i := 32) (v := ?_) rfl (by kernel_rfl) (by kernel_rfl) (by kernel_rfl) (fun _ _ _ h => h) (Or.inl ⟨by rfl, ?_⟩) (by assumption) ?_
                  rotate_left
                  first | (focus ((intro w hSw; (try dsimp only at hSw); go_simp); (try with_reducible rfl); done)) | fail
                  try simp only [Act.put, List.getElem_toArray, List.getElem_cons_zero, List.getElem_cons_succ, List.setIfInBounds_toArray, List.set_cons_zero, List.set_cons_succ]
                  refine wpAnyH_take (i := 33) (v := ?_) rfl (by kernel_rfl) (by kernel_rfl) (by kernel_rfl) (fun _ _ _ h => h) (Or.inl ⟨by rfl, ?_⟩) (by assumption) ?_
                  rotate_left
                  first | (focus ((intro w hSw; (try dsimp only at hSw); go_simp); (try with_reducible rfl); done)) | fail
                  try simp only [Act.put, List.getElem_toArray, List.getElem_cons_zero, List.getElem_cons_succ, List.setIfInBounds_toArray, List.set_cons_zero, List.set_cons_succ]
                  refine wpAnyH_done (by kernel_rfl) ?_ _
                  go_wp2
                  go_ret
                  exact ⟨by rw [HV2.out, ovG_no HXj.out HX.out]; rfl, HEV1.out.2.2.1.drew.trans (below_of_le B6.out HEV1.out.2.2.2)⟩
                · have hs1 : decide (o3 ≤ x3) = false := decide_eq_false hs
                  have HX := Lib.hid (show okP ((o1, o2), o3) (prevAt none L (k + 1)) ((x1, x2), x3) = true from by rw [HPV.out]; unfold okP; simp only; rw [hr', hq1, hl0, hs1]; rfl)
                  clear hq1 hr' hl0
                  refine wp_region_held_drew (S := (fun W => W.cell? ⟨D, 0, none⟩ = some (.int .i64 x1) ∧ W.cell? ⟨D, 1, none⟩ = some (.int .i64 x2) ∧ W.cell? ⟨D, 2, none⟩ = some (.int .i64 x3) ∧ W.cell? ⟨w.heap.size, 0, none⟩ = some (.int .i64 o1) ∧ W.cell? ⟨w.heap.size, 1, none⟩ = some (.int .i64 o2) ∧ W.cell? ⟨w.heap.size, 2, none⟩ = some (.int .i64 o3) ∧ W.cell? ⟨w.heap.size, 18, none⟩ = some (.slice (some ⟨b0, o0, none⟩) n c) ∧ W.cell? ⟨b0, o0 + k * 3, none⟩ = some (.int .i64 p1) ∧ W.cell? ⟨b0, o0 + k * 3 + 1, none⟩ = some (.int .i64 p2) ∧ W.cell? ⟨b0, o0 + k * 3 + 2, none⟩ = some (.int .i64 p3))) (by kernel_rfl) ?_ (fun hHeld => ?_)
                  · (try dsimp only); exact HS.out
                  refine wpAnyH_take (i := 0) (v := ?_) rfl (by kernel_rfl) (by kernel_rfl) (by kernel_rfl) (fun _ _ _ h => h) (Or.inl ⟨by rfl, ?_⟩) (by assumption) ?_
                  rotate_left
                  first | (focus ((intro w hSw; (try dsimp only at hSw); go_simp); (try with_reducible rfl); done)) | fail
                  try simp only [Act.put, List.getElem_toArray, List.getElem_cons_zero, List.setIfInBounds_toArray, List.set_cons_zero, List.set_cons_succ]
                  refine wpAnyH_ready (rs := [1]) (by kernel_rfl) (by simp) ?_
                  refine AllReadyH.cons rfl (fun K hK => ?_) AllReadyH.nil
                  go_simp
                  refine (CR.out _).mono ?_; rintro r w5 ⟨rfl, b5⟩
                  go_wp2_with fail
                  refine hK.out _ _ ?_ (fun hHeld => ?_)
                  · (try dsimp only); exact ⟨((below_of_le b5 hN0).cell hDl).trans hHeld.1, ((below_of_le b5 hN0).cell hDl).trans hHeld.2.1, ((below_of_le b5 hN0).cell hDl).trans hHeld.2.2.1, ((below_of_le b5 hN0).cell hEl).trans hHeld.2.2.2.1, ((below_of_le b5 hN0).cell hEl).trans hHeld.2.2.2.2.1, ((below_of_le b5 hN0).cell hEl).trans hHeld.2.2.2.2.2.1, ((below_of_le b5 hN0).cell hEl).trans hHeld.2.2.2.2.2.2.1, ((below_of_le b5 hN0).cell hbl).trans hHeld.2.2.2.2.2.2.2.1, ((below_of_le b5 hN0).cell hbl).trans hHeld.2.2.2.2.2.2.2.2.1, ((below_of_le b5 hN0).cell hbl).trans hHeld.2.2.2.2.2.2.2.2.2⟩
                  clear hK K
                  try simp only [Act.put, List.getElem_toArray, List.getElem_cons_zero, List.getElem_cons_succ, List.setIfInBounds_toArray, List.set_cons_zero, List.set_cons_succ]
                  have B5 := Lib.hid (below_of_le b5 hN0)
                  clear b5
                  refine wpAnyH_take (i := 2) (v := ?_) rfl (by kernel_rfl) (by kernel_rfl) (by kernel_rfl) (fun _ _ _ h => h) (Or.inl ⟨by rfl, ?_⟩) (by assumption) ?_
                  rotate_left
                  first | (focus ((intro w hSw; (try dsimp only at hSw); go_simp); (try with_reducible rfl); done)) | fail
                  try simp only [Act.put, List.getElem_toArray, List.getElem_cons_zero, List.getElem_cons_succ, List.setIfInBounds_toArray, List.set_cons_zero, List.set_cons_succ]
                  refine wpAnyH_take (i := 3) (v := ?_) rfl (by kernel_rfl) (by kernel_rfl) (by kernel_rfl) (fun _ _ _ h => h) (Or.inl ⟨by rfl, ?_⟩) (by assumption) ?_
                  rotate_left
                  first | (focus ((intro w hSw; (try dsimp only at hSw); go_simp); (try with_reducible rfl); done)) | fail
                  try simp only [Act.put, List.getElem_toArray, List.getElem_cons_zero, List.getElem_cons_succ, List.setIfInBounds_toArray, List.set_cons_zero, List.set_cons_succ]
                  refine wpAnyH_take (i := 4) (v := ?_) rfl (by kernel_rfl) (by kernel_rfl) (by kernel_rfl) (fun _ _ _ h => h) (Or.inl ⟨by rfl, ?_⟩) (by assumption) ?_
                  rotate_left
                  first | (focus ((intro w hSw; (try dsimp only at hSw); go_simp); (try with_reducible rfl); done)) | fail
                  try simp only [Act.put, List.getElem_toArray, List.getElem_cons_zero, List.getElem_cons_succ, List.setIfInBounds_toArray, List.set_cons_zero, List.set_cons_succ]
                  refine wpAnyH_take (i := 5) (v := ?_) rfl (by kernel_rfl) (by kernel_rfl) (by kernel_rfl) (fun _ _ _ h => h) (Or.inl ⟨by rfl, ?_⟩) (by assumption) ?_
                  rotate_left
                  first | (focus ((intro w hSw; (try dsimp only at hSw); go_simp); (try with_reducible rfl); done)) | fail
                  try simp only [Act.put, List.getElem_toArray, List.getElem_cons_zero, List.getElem_cons_succ, List.setIfInBounds_toArray, List.set_cons_zero, List.set_cons_succ]
                  refine wpAnyH_take (i := 6) (v := ?_) rfl (by kernel_rfl) (by kernel_rfl) (by kernel_rfl) (fun _ _ _ h => h) (Or.inl ⟨by rfl, ?_⟩) (by assumption) ?_
                  rotate_left
                  first | (focus ((intro w hSw; (try dsimp only at hSw); go_simp); (try with_reducible rfl); done)) | fail
                  try simp only [Act.put, List.getElem_toArray, List.getElem_cons_zero, List.getElem_cons_succ, List.setIfInBounds_toArray, List.set_cons_zero, List.set_cons_succ]
                  refine wpAnyH_take (i := 7) (v := ?_) rfl (by kernel_rfl) (by kernel_rfl) (by kernel_rfl) (fun _ _ _ h => h) (Or.inl ⟨by rfl, ?_⟩) (by assumption) ?_
                  rotate_left
                  first | (focus ((intro w hSw; (try dsimp only at hSw); go_simp); (try with_reducible rfl); done)) | fail
                  try simp only [Act.put, List.getElem_toArray, List.getElem_cons_zero, List.getElem_cons_succ, List.setIfInBounds_toArray, List.set_cons_zero, List.set_cons_succ]
                  refine wpAnyH_take (i := 8) (v := ?_) rfl (by kernel_rfl) (by kernel_rfl) (by kernel_rfl) (fun _ _ _ h => h) (Or.inl ⟨by rfl, ?_⟩) (by assumption) ?_
                  rotate_left
                  first | (focus ((intro w hSw; (try dsimp only at hSw); go_simp); (try with_reducible rfl); done)) | fail
                  try simp only [Act.put, List.getElem_toArray, List.getElem_cons_zero, List.getElem_cons_succ, List.setIfInBounds_toArray, List.set_cons_zero, List.set_cons_succ]
                  refine wpAnyH_take (i := 9) (v := ?_) rfl (by kernel_rfl) (by kernel_rfl) (by kernel_rfl) (fun _ _ _ h => h) (Or.inl ⟨by rfl, ?_⟩) (by assumption) ?_
                  rotate_left
                  first | (focus ((intro w hSw; (try dsimp only at hSw); go_simp); (try with_reducible rfl); done)) | fail
                  try simp only [Act.put, List.getElem_toArray, List.getElem_cons_zero, List.getElem_cons_succ, List.setIfInBounds_toArray, List.set_cons_zero, List.set_cons_succ]
                  refine wpAnyH_take (i := 10) (v := ?_) rfl (by kernel_rfl) (by kernel_rfl) (by kernel_rfl) (fun _ _ _ h => h) (Or.inl ⟨by rfl, ?_⟩) (by assumption) ?_
                  rotate_left
                  first | (focus ((intro w hSw; (try dsimp only at hSw); go_simp); (try with_reducible rfl); done)) | fail
                  try simp only [Act.put, List.getElem_toArray, List.getElem_cons_zero, List.getElem_cons_succ, List.setIfInBounds_toArray, List.set_cons_zero, List.set_cons_succ]
                  refine wpAnyH_take (i := 11) (v := ?_) rfl (by kernel_rfl) (by kernel_rfl) (by kernel_rfl) (fun _ _ _ h => h) (Or.inl ⟨by rfl, ?_⟩) (by assumption) ?_
                  rotate_left
                  first | (focus ((intro w hSw; (try dsimp only at hSw); go_simp); (try with_reducible rfl); done)) | fail
                  try simp only [Act.put, List.getElem_toArray, List.getElem_cons_zero, List.getElem_cons_succ, List.setIfInBounds_toArray, List.set_cons_zero, List.set_cons_succ]
                  refine wpAnyH_take (i := 12) (v := ?_) rfl (by kernel_rfl) (by kernel_rfl) (by kernel_rfl) (fun _ _ _ h => h) (Or.inl ⟨by rfl, ?_⟩) (by assumption) ?_
                  rotate_left
                  first | (focus ((intro w hSw; (try dsimp only at hSw); go_simp); (try with_reducible rfl); done)) | fail
                  try simp only [Act.put, List.getElem_toArray, List.getElem_cons_zero, List.getElem_cons_succ, List.setIfInBounds_toArray, List.set_cons_zero, List.set_cons_succ]
                  refine wpAnyH_take (i := 13) (v := ?_) rfl (by kernel_rfl) (by kernel_rfl) (by kernel_rfl) (fun _ _ _ h => h) (Or.inl ⟨by rfl, ?_⟩) (by assumption) ?_
                  rotate_left
                  first | (focus ((intro w hSw; (try dsimp only at hSw); go_simp); (try with_reducible rfl); done)) | fail
                  try simp only [Act.put, List.getElem_toArray, List.getElem_cons_zero, List.getElem_cons_succ, List.setIfInBounds_toArray, List.set_cons_zero, List.set_cons_succ]
                  refine wpAnyH_ready (rs := [14]) (by kernel_rfl) (by simp) ?_
                  refine AllReadyH.cons rfl (fun K hK => ?_) AllReadyH.nil
                  go_simp
                  refine (CL.out _).mono ?_; rintro r w6 ⟨rfl, b6⟩
                  go_wp2_with fail
                  refine hK.out _ _ ?_ (fun hHeld => ?_)
                  · (try dsimp only); exact ⟨((below_of_le b6 (Nat.le_trans hN0 B5.out.size)).cell hDl).trans hHeld.1, ((below_of_le b6 (Nat.le_trans hN0 B5.out.size)).cell hDl).trans hHeld.2.1, ((below_of_le b6 (Nat.le_trans hN0 B5.out.size)).cell hDl).trans hHeld.2.2.1, ((below_of_le b6 (Nat.le_trans hN0 B5.out.size)).cell hEl).trans hHeld.2.2.2.1, ((below_of_le b6 (Nat.le_trans hN0 B5.out.size)).cell hEl).trans hHeld.2.2.2.2.1, ((below_of_le b6 (Nat.le_trans hN0 B5.out.size)).cell hEl).trans hHeld.2.2.2.2.2.1, ((below_of_le b6 (Nat.le_trans hN0 B5.out.size)).cell hEl).trans hHeld.2.2.2.2.2.2.1, ((below_of_le b6 (Nat.le_trans hN0 B5.out.size)).cell hbl).trans hHeld.2.2.2.2.2.2.2.1, ((below_of_le b6 (Nat.le_trans hN0 B5.out.size)).cell hbl).trans hHeld.2.2.2.2.2.2.2.2.1, ((below_of_le b6 (Nat.le_trans hN0 B5.out.size)).cell hbl).trans hHeld.2.2.2.2.2.2.2.2.2⟩
                  clear hK K
                  try simp only [Act.put, List.getElem_toArray, List.getElem_cons_zero, List.getElem_cons_succ, List.setIfInBounds_toArray, List.set_cons_zero, List.set_cons_succ]
                  have B6 := Lib.hid (B5.out.trans (below_of_le b6 (Nat.le_trans hN0 B5.out.size)))
                  clear b6
                  refine wpAnyH_take (i := 15) (v := ?_) rfl (by kernel_rfl) (by kernel_rfl) (by kernel_rfl) (fun _ _ _ h => h) (Or.inl ⟨by rfl, ?_⟩) (by assumption) ?_
                  rotate_left
                  first | (focus ((intro w hSw; (try dsimp only at hSw); go_simp); (try with_reducible rfl); done)) | fail
                  try simp only [Act.put, List.getElem_toArray, List.getElem_cons_zero, List.getElem_cons_succ, List.setIfInBounds_toArray, List.set_cons_zero, List.set_cons_succ]
                  refine wpAnyH_take (i := 16) (v := ?_) rfl (by kernel_rfl) (by kernel_rfl) (by kernel_rfl) (fun _ _ _ h => h) (Or.inl ⟨by rfl, ?_⟩) (by assumption) ?_
                  rotate_left
                  first | (focus ((intro w hSw; (try dsimp only at hSw); go_simp); (try with_reducible rfl); done)) | fail
                  try simp only [Act.put, List.getElem_toArray, List.getElem_cons_zero, List.getElem_cons_succ, List.setIfInBounds_toArray, List.set_cons_zero, List.set_cons_succ]
                  refine wpAnyH_take (i := 17) (v := ?_) rfl (by kernel_rfl) (by kernel_rfl) (by kernel_rfl) (fun _ _ _ h => h) (Or.inl ⟨by rfl, ?_⟩) (by assumption) ?_
                  rotate_left
                  first | (focus ((intro w hSw; (try dsimp only at hSw); go_simp); (try with_reducible rfl); done)) | fail
                  try simp only [Act.put, List.getElem_toArray, List.getElem_cons_zero, List.getElem_cons_succ, List.setIfInBounds_toArray, List.set_cons_zero, List.set_cons_succ]
                  refine wpAnyH_take (i := 18) (v := ?_) rfl (by kernel_rfl) (by kernel_rfl) (by kernel_rfl) (fun _ _ _ h => h) (Or.inl ⟨by rfl, ?_⟩) (by assumption) ?_
                  rotate_left
                  first | (focus ((intro w hSw; (try dsimp only at hSw); go_simp); (try with_reducible rfl); done)) | fail
                  try simp only [Act.put, List.getElem_toArray, List.getElem_cons_zero, List.getElem_cons_succ, List.setIfInBounds_toArray, List.set_cons_zero, List.set_cons_succ]
                  refine wpAnyH_take (i := 19) (v := ?_) rfl (by kernel_rfl) (by kernel_rfl) (by kernel_rfl) (fun _ _ _ h => h) (Or.inl ⟨by rfl, ?_⟩) (by assumption) ?_
                  rotate_left
                  first | (focus ((intro w hSw; (try dsimp only at hSw); go_simp); (try with_reducible rfl); done)) | fail
                  try simp only [Act.put, List.getElem_toArray, List.getElem_cons_zero, List.getElem_cons_succ, List.setIfInBounds_toArray, List.set_cons_zero, List.set_cons_succ]
                  refine wpAnyH_take (i := 20) (v := ?_) rfl (by kernel_rfl) (by kernel_rfl) (by kernel_rfl) (fun _ _ _ h => h) (Or.inl ⟨by rfl, ?_⟩) (by assumption) ?_
                  rotate_left
                  first | (focus ((intro w hSw; (try dsimp only at hSw); go_simp); (try with_reducible rfl); done)) | fail
                  try simp only [Act.put, List.getElem_toArray, List.getElem_cons_zero, List.getElem_cons_succ, List.setIfInBounds_toArray, List.set_cons_zero, List.set_cons_succ]
                  refine wpAnyH_take (i := 21) (v := ?_) rfl (by kernel_rfl) (by kernel_rfl) (by kernel_rfl) (fun _ _ _ h => h) (Or.inl ⟨by rfl, ?_⟩) (by assumption) ?_
                  rotate_left
                  first | (focus ((intro w hSw; (try dsimp only at hSw); go_simp); (try with_reducible rfl); done)) | fail
                  try simp only [Act.put, List.getElem_toArray, List.getElem_cons_zero, List.getElem_cons_succ, List.setIfInBounds_toArray, List.set_cons_zero, List.set_cons_succ]
                  refine wpAnyH_take (i := 22) (v := ?_) rfl (by kernel_rfl) (by kernel_rfl) (by kernel_rfl) (fun _ _ _ h => h) (Or.inl ⟨by rfl, ?_⟩) (by assumption) ?_
                  rotate_left
                  first | (focus ((intro w hSw; (try dsimp only at hSw); go_simp); (try with_reducible rfl); done)) | fail
                  try simp only [Act.put, List.getElem_toArray, List.getElem_cons_zero, List.getElem_cons_succ, List.setIfInBounds_toArray, List.set_cons_zero, List.set_cons_succ]
                  refine wpAnyH_take (i := 23) (v := ?_) rfl (by kernel_rfl) (by kernel_rfl) (by kernel_rfl) (fun _ _ _ h => h) (Or.inl ⟨by rfl, ?_⟩) (by assumption) ?_
                  rotate_left
                  first | (focus ((intro w hSw; (try dsimp only at hSw); go_simp); (try with_reducible rfl); done)) | fail
                  try simp only [Act.put, List.getElem_toArray, List.getElem_cons_zero, List.getElem_cons_succ, List.setIfInBounds_toArray, List.set_cons_zero, List.set_cons_succ]
                  refine wpAnyH_take (i := 24) (v := ?_) rfl (by kernel_rfl) (by kernel_rfl) (by kernel_rfl) (fun _ _ _ h => h) (Or.inl ⟨by rfl, ?_⟩) (by assumption) ?_
                  rotate_left
                  first | (focus ((intro w hSw; (try dsimp only at hSw); go_simp); (try with_reducible rfl); done)) | fail
                  try simp only [Act.put, List.getElem_toArray, List.getElem_cons_zero, List.getElem_cons_succ, List.setIfInBounds_toArray, List.set_cons_zero, List.set_cons_succ]
                  refine wpAnyH_take (i := 25) (v := ?_) rfl (by kernel_rfl) (by kernel_rfl) (by kernel_rfl) (fun _ _ _ h => h) (Or.inl ⟨by rfl, ?_⟩) (by assumption) ?_
                  rotate_left
                  first | (focus ((intro w hSw; (try dsimp only at hSw); go_simp); (try with_reducible rfl); done)) | fail
                  try simp only [Act.put, List.getElem_toArray, List.getElem_cons_zero, List.getElem_cons_succ, List.setIfInBounds_toArray, List.set_cons_zero, List.set_cons_succ]
                  refine wpAnyH_take (i := 26) (v := ?_) rfl (by kernel_rfl) (by kernel_rfl) (by kernel_rfl) (fun _ _ _ h => h) (Or.inl ⟨by rfl, ?_⟩) (by assumption) ?_
                  rotate_left
                  first | (focus ((intro w hSw; (try dsimp only at hSw); go_simp); (try with_reducible rfl); done)) | fail
                  try simp only [Act.put, List.getElem_toArray, List.getElem_cons_zero, List.getElem_cons_succ, List.setIfInBounds_toArray, List.set_cons_zero, List.set_cons_succ]
                  refine wpAnyH_take (i := 27) (v := ?_) rfl (by kernel_rfl) (by kernel_rfl) (by kernel_rfl) (fun _ _ _ h => h) (Or.inl ⟨by rfl, ?_⟩) (by assumption) ?_
                  rotate_left
                  first | (focus ((intro w hSw; (try dsimp only at hSw); go_simp); (try with_reducible rfl); done)) | fail
                  try simp only [Act.put, List.getElem_toArray, List.getElem_cons_zero, List.getElem_cons_succ, List.setIfInBounds_toArray, List.set_cons_zero, List.set_cons_succ]
                  refine wpAnyH_take (i := 28) (v := ?_) rfl (by kernel_rfl) (by kernel_rfl) (by kernel_rfl) (fun _ _ _ h => h) (Or.inl ⟨by rfl, ?_⟩) (by assumption) ?_
                  rotate_left
                  first | (focus ((intro w hSw; (try dsimp only at hSw); go_simp); (try with_reducible rfl); done)) | fail
                  try simp only [Act.put, List.getElem_toArray, List.getElem_cons_zero, List.getElem_cons_succ, List.setIfInBounds_toArray, List.set_cons_zero, List.set_cons_succ]
                  refine wpAnyH_take (i := 29) (v := ?_) rfl (by kernel_rfl) (by kernel_rfl) (by kernel_rfl) (fun _ _ _ h => h) (Or.inl ⟨by rfl, ?_⟩) (by assumption) ?_
                  rotate_left
                  first | (focus ((intro w hSw; (try dsimp only at hSw); go_simp); (try with_reducible rfl); done)) | fail
                  try simp only [Act.put, List.getElem_toArray, List.getElem_cons_zero, List.getElem_cons_succ, List.setIfInBounds_toArray, List.set_cons_zero, List.set_cons_succ]
                  refine wpAnyH_take (i := 30) (v := ?_) rfl (by kernel_rfl) (by kernel_rfl) (by kernel_rfl) (fun _ _ _ h => h) (Or.inl ⟨by rfl, ?_⟩) (by assumption) ?_
                  rotate_left
                  first | (focus ((intro w hSw; (try dsimp only at hSw); go_simp); (try with_reducible rfl); done)) | fail
                  try simp only [Act.put, List.getElem_toArray, List.getElem_cons_zero, List.getElem_cons_succ, List.setIfInBounds_toArray, List.set_cons_zero, List.set_cons_succ]
                  refine wpAnyH_take (i := 31) (v := ?_) rfl (by kernel_rfl) (by kernel_rfl) (by kernel_rfl) (fun _ _ _ h => h) (Or.inl ⟨by rfl, ?_⟩) (by assumption) ?_
                  rotate_left
                  first | (focus ((intro w hSw; (try dsimp only at hSw); go_simp); (try with_reducible rfl); done)) | fail
                  try simp only [Act.put, List.getElem_toArray, List.getElem_cons_zero, List.getElem_cons_succ, List.setIfInBounds_toArray, List.set_cons_zero, List.set_cons_succ]
                  refine wpAnyH_take (i := 32) (v := ?_) rfl (by kernel_rfl) (by kernel_rfl) (by kernel_rfl) (fun _ _ _ h => h) (Or.inl ⟨by rfl, ?_⟩) (by assumption) ?_
                  rotate_left
                  first | (focus ((intro w hSw; (try dsimp only at hSw); go_simp); (try with_reducible rfl); done)) | fail
                  try simp only [Act.put, List.getElem_toArray, List.getElem_cons_zero, List.getElem_cons_succ, List.setIfInBounds_toArray, List.set_cons_zero, List.set_cons_succ]
                  refine wpAnyH_take (i := 33) (v := ?_) rfl (by kernel_rfl) (by kernel_rfl) (by kernel_rfl) (fun _ _ _ h => h) (Or.inl ⟨by rfl, ?_⟩) (by assumption) ?_
                  rotate_left
                  first | (focus ((intro w hSw; (try dsimp only at hSw); go_simp); (try with_reducible rfl); done)) | fail
                  try simp only [Act.put, List.getElem_toArray, List.getElem_cons_zero, List.getElem_cons_succ, List.setIfInBounds_toArray, List.set_cons_zero, List.set_cons_succ]
                  refine wpAnyH_done (by kernel_rfl) ?_ _
                  go_wp2
                  go_roundw
                  case rel => exact ⟨_, by omega, by go_num, ok_step HK.out.1 HXj.out HX.out, HEV1.out.drew.step B6.out⟩
                  case measure => simp [intOf]; omega
              · have hEq : ∀ w : World, (binOp .eql 48 (.agg #[.int .i64 x1, .int .i64 x2]) (.agg #[.int .i64 o1, .int .i64 o2])).run Tryz.prog w = .ok (.bool false) w := fun w => by have h := eql_act x1 x2 o1 o2 w; unfold actV at h; rw [decide_eq_false hq] at h; exact h
                have hq1 : decide (((x1, x2) : Ac) = (o1, o2)) = false := decide_eq_false (fun e => hq ⟨congrArg Prod.fst e, congrArg Prod.snd e⟩)
                clear hq
                have HX := Lib.hid (show okP ((o1, o2), o3) (prevAt none L (k + 1)) ((x1, x2), x3) = true from by rw [HPV.out]; unfold okP; simp only; rw [hr', hq1, hl0]; rfl)
                clear hq1 hr' hl0
                refine wp_region_held_drew (S := (fun W => W.cell? ⟨D, 0, none⟩ = some (.int .i64 x1) ∧ W.cell? ⟨D, 1, none⟩ = some (.int .i64 x2) ∧ W.cell? ⟨D, 2, none⟩ = some (.int .i64 x3) ∧ W.cell? ⟨w.heap.size, 0, none⟩ = some (.int .i64 o1) ∧ W.cell? ⟨w.heap.size, 1, none⟩ = some (.int .i64 o2) ∧ W.cell? ⟨w.heap.size, 2, none⟩ = some (.int .i64 o3) ∧ W.cell? ⟨w.heap.size, 18, none⟩ = some (.slice (some ⟨b0, o0, none⟩) n c) ∧ W.cell? ⟨b0, o0 + k * 3, none⟩ = some (.int .i64 p1) ∧ W.cell? ⟨b0, o0 + k * 3 + 1, none⟩ = some (.int .i64 p2) ∧ W.cell? ⟨b0, o0 + k * 3 + 2, none⟩ = some (.int .i64 p3))) (by kernel_rfl) ?_ (fun hHeld => ?_)
                · (try dsimp only); exact HS.out
                refine wpAnyH_take (i := 0) (v := ?_) rfl (by kernel_rfl) (by kernel_rfl) (by kernel_rfl) (fun _ _ _ h => h) (Or.inl ⟨by rfl, ?_⟩) (by assumption) ?_
                rotate_left
                first | (focus ((intro w hSw; (try dsimp only at hSw); go_simp); (try with_reducible rfl); done)) | fail
                try simp only [Act.put, List.getElem_toArray, List.getElem_cons_zero, List.setIfInBounds_toArray, List.set_cons_zero, List.set_cons_succ]
                refine wpAnyH_ready (rs := [1]) (by kernel_rfl) (by simp) ?_
                refine AllReadyH.cons rfl (fun K hK => ?_) AllReadyH.nil
                go_simp
                refine (CR.out _).mono ?_; rintro r w5 ⟨rfl, b5⟩
                go_wp2_with fail
                refine hK.out _ _ ?_ (fun hHeld => ?_)
                · (try dsimp only); exact ⟨((below_of_le b5 hN0).cell hDl).trans hHeld.1, ((below_of_le b5 hN0).cell hDl).trans hHeld.2.1, ((below_of_le b5 hN0).cell hDl).trans hHeld.2.2.1, ((below_of_le b5 hN0).cell hEl).trans hHeld.2.2.2.1, ((below_of_le b5 hN0).cell hEl).trans hHeld.2.2.2.2.1, ((below_of_le b5 hN0).cell hEl).trans hHeld.2.2.2.2.2.1, ((below_of_le b5 hN0).cell hEl).trans hHeld.2.2.2.2.2.2.1, ((below_of_le b5 hN0).cell hbl).trans hHeld.2.2.2.2.2.2.2.1, ((below_of_le b5 hN0).cell hbl).trans hHeld.2.2.2.2.2.2.2.2.1, ((below_of_le b5 hN0).cell hbl).trans hHeld.2.2.2.2.2.2.2.2.2⟩
                clear hK K
                try simp only [Act.put, List.getElem_toArray, List.getElem_cons_zero, List.getElem_cons_succ, List.setIfInBounds_toArray, List.set_cons_zero, List.set_cons_succ]
                have B5 := Lib.hid (below_of_le b5 hN0)
                clear b5
                refine wpAnyH_take (i := 2) (v := ?_) rfl (by kernel_rfl) (by kernel_rfl) (by kernel_rfl) (fun _ _ _ h => h) (Or.inl ⟨by rfl, ?_⟩) (by assumption) ?_
                rotate_left
                first | (focus ((intro w hSw; (try dsimp only at hSw); go_simp); (try with_reducible rfl); done)) | fail
                try simp only [Act.put, List.getElem_toArray, List.getElem_cons_zero, List.getElem_cons_succ, List.setIfInBounds_toArray, List.set_cons_zero, List.set_cons_succ]
                refine wpAnyH_take (i := 3) (v := ?_) rfl (by kernel_rfl) (by kernel_rfl) (by kernel_rfl) (fun _ _ _ h => h) (Or.inl ⟨by rfl, ?_⟩) (by assumption) ?_
                rotate_left
                first | (focus ((intro w hSw; (try dsimp only at hSw); go_simp); (try with_reducible rfl); done)) | fail
                try simp only [Act.put, List.getElem_toArray, List.getElem_cons_zero, List.getElem_cons_succ, List.setIfInBounds_toArray, List.set_cons_zero, List.set_cons_succ]
                refine wpAnyH_take (i := 4) (v := ?_) rfl (by kernel_rfl) (by kernel_rfl) (by kernel_rfl) (fun _ _ _ h => h) (Or.inl ⟨by rfl, ?_⟩) (by assumption) ?_
                rotate_left
                first | (focus ((intro w hSw; (try dsimp only at hSw); go_simp); (try with_reducible rfl); done)) | fail
                try simp only [Act.put, List.getElem_toArray, List.getElem_cons_zero, List.getElem_cons_succ, List.setIfInBounds_toArray, List.set_cons_zero, List.set_cons_succ]
                refine wpAnyH_take (i := 5) (v := ?_) rfl (by kernel_rfl) (by kernel_rfl) (by kernel_rfl) (fun _ _ _ h => h) (Or.inl ⟨by rfl, ?_⟩) (by assumption) ?_
                rotate_left
                first | (focus ((intro w hSw; (try dsimp only at hSw); go_simp); (try with_reducible rfl); done)) | fail
                try simp only [Act.put, List.getElem_toArray, List.getElem_cons_zero, List.getElem_cons_succ, List.setIfInBounds_toArray, List.set_cons_zero, List.set_cons_succ]
                refine wpAnyH_take (i := 6) (v := ?_) rfl (by kernel_rfl) (by kernel_rfl) (by kernel_rfl) (fun _ _ _ h => h) (Or.inl ⟨by rfl, ?_⟩) (by assumption) ?_
                rotate_left
                first | (focus ((intro w hSw; (try dsimp only at hSw); go_simp); (try with_reducible rfl); done)) | fail
                try simp only [Act.put, List.getElem_toArray, List.getElem_cons_zero, List.getElem_cons_succ, List.setIfInBounds_toArray, List.set_cons_zero, List.set_cons_succ]
                refine wpAnyH_take (i := 7) (v := ?_) rfl (by kernel_rfl) (by kernel_rfl) (by kernel_rfl) (fun _ _ _ h => h) (Or.inl ⟨by rfl, ?_⟩) (by assumption) ?_
                rotate_left
                first | (focus ((intro w hSw; (try dsimp only at hSw); go_simp); (try with_reducible rfl); done)) | fail
                try simp only [Act.put, List.getElem_toArray, List.getElem_cons_zero, List.getElem_cons_succ, List.setIfInBounds_toArray, List.set_cons_zero, List.set_cons_succ]
                refine wpAnyH_take (i := 8) (v := ?_) rfl (by kernel_rfl) (by kernel_rfl) (by kernel_rfl) (fun _ _ _ h => h) (Or.inl ⟨by rfl, ?_⟩) (by assumption) ?_
                rotate_left
                first | (focus ((intro w hSw; (try dsimp only at hSw); go_simp); (try with_reducible rfl); done)) | fail
                try simp only [Act.put, List.getElem_toArray, List.getElem_cons_zero, List.getElem_cons_succ, List.setIfInBounds_toArray, List.set_cons_zero, List.set_cons_succ]
                refine wpAnyH_take (i := 9) (v := ?_) rfl (by kernel_rfl) (by kernel_rfl) (by kernel_rfl) (fun _ _ _ h => h) (Or.inl ⟨by rfl, ?_⟩) (by assumption) ?_
                rotate_left
                first | (focus ((intro w hSw; (try dsimp only at hSw); go_simp); (try with_reducible rfl); done)) | fail
                try simp only [Act.put, List.getElem_toArray, List.getElem_cons_zero, List.getElem_cons_succ, List.setIfInBounds_toArray, List.set_cons_zero, List.set_cons_succ]
                refine wpAnyH_take (i := 10) (v := ?_) rfl (by kernel_rfl) (by kernel_rfl) (by kernel_rfl) (fun _ _ _ h => h) (Or.inl ⟨by rfl, ?_⟩) (by assumption) ?_
                rotate_left
                first | (focus ((intro w hSw; (try dsimp only at hSw); go_simp); (try with_reducible rfl); done)) | fail
                try simp only [Act.put, List.getElem_toArray, List.getElem_cons_zero, List.getElem_cons_succ, List.setIfInBounds_toArray, List.set_cons_zero, List.set_cons_succ]
                refine wpAnyH_take (i := 11) (v := ?_) rfl (by kernel_rfl) (by kernel_rfl) (by kernel_rfl) (fun _ _ _ h => h) (Or.inl ⟨by rfl, ?_⟩) (by assumption) ?_
                rotate_left
                first | (focus ((intro w hSw; (try dsimp only at hSw); go_simp); (try with_reducible rfl); done)) | fail
                try simp only [Act.put, List.getElem_toArray, List.getElem_cons_zero, List.getElem_cons_succ, List.setIfInBounds_toArray, List.set_cons_zero, List.set_cons_succ]
                refine wpAnyH_take (i := 12) (v := ?_) rfl (by kernel_rfl) (by kernel_rfl) (by kernel_rfl) (fun _ _ _ h => h) (Or.inl ⟨by rfl, ?_⟩) (by assumption) ?_
                rotate_left
                first | (focus ((intro w hSw; (try dsimp only at hSw); go_simp); (try with_reducible rfl); done)) | fail
                try simp only [Act.put, List.getElem_toArray, List.getElem_cons_zero, List.getElem_cons_succ, List.setIfInBounds_toArray, List.set_cons_zero, List.set_cons_succ]
                refine wpAnyH_take (i := 13) (v := ?_) rfl (by kernel_rfl) (by kernel_rfl) (by kernel_rfl) (fun _ _ _ h => h) (Or.inl ⟨by rfl, ?_⟩) (by assumption) ?_
                rotate_left
                first | (focus ((intro w hSw; (try dsimp only at hSw); go_simp); (try with_reducible rfl); done)) | fail
                try simp only [Act.put, List.getElem_toArray, List.getElem_cons_zero, List.getElem_cons_succ, List.setIfInBounds_toArray, List.set_cons_zero, List.set_cons_succ]
                refine wpAnyH_ready (rs := [14]) (by kernel_rfl) (by simp) ?_
                refine AllReadyH.cons rfl (fun K hK => ?_) AllReadyH.nil
                go_simp
                refine (CL.out _).mono ?_; rintro r w6 ⟨rfl, b6⟩
                go_wp2_with fail
                refine hK.out _ _ ?_ (fun hHeld => ?_)
                · (try dsimp only); exact ⟨((below_of_le b6 (Nat.le_trans hN0 B5.out.size)).cell hDl).trans hHeld.1, ((below_of_le b6 (Nat.le_trans hN0 B5.out.size)).cell hDl).trans hHeld.2.1, ((below_of_le b6 (Nat.le_trans hN0 B5.out.size)).cell hDl).trans hHeld.2.2.1, ((below_of_le b6 (Nat.le_trans hN0 B5.out.size)).cell hEl).trans hHeld.2.2.2.1, ((below_of_le b6 (Nat.le_trans hN0 B5.out.size)).cell hEl).trans hHeld.2.2.2.2.1, ((below_of_le b6 (Nat.le_trans hN0 B5.out.size)).cell hEl).trans hHeld.2.2.2.2.2.1, ((below_of_le b6 (Nat.le_trans hN0 B5.out.size)).cell hEl).trans hHeld.2.2.2.2.2.2.1, ((below_of_le b6 (Nat.le_trans hN0 B5.out.size)).cell hbl).trans hHeld.2.2.2.2.2.2.2.1, ((below_of_le b6 (Nat.le_trans hN0 B5.out.size)).cell hbl).trans hHeld.2.2.2.2.2.2.2.2.1, ((below_of_le b6 (Nat.le_trans hN0 B5.out.size)).cell hbl).trans hHeld.2.2.2.2.2.2.2.2.2⟩
                clear hK K
                try simp only [Act.put, List.getElem_toArray, List.getElem_cons_zero, List.getElem_cons_succ, List.setIfInBounds_toArray, List.set_cons_zero, List.set_cons_succ]
                have B6 := Lib.hid (B5.out.trans (below_of_le b6 (Nat.le_trans hN0 B5.out.size)))
                clear b6
                refine wpAnyH_take (i := 15) (v := ?_) rfl (by kernel_rfl) (by kernel_rfl) (by kernel_rfl) (fun _ _ _ h => h) (Or.inl ⟨by rfl, ?_⟩) (by assumption) ?_
                rotate_left
                first | (focus ((intro w hSw; (try dsimp only at hSw); go_simp); (try with_reducible rfl); done)) | fail
                try simp only [Act.put, List.getElem_toArray, List.getElem_cons_zero, List.getElem_cons_succ, List.setIfInBounds_toArray, List.set_cons_zero, List.set_cons_succ]
                refine wpAnyH_take (i := 16) (v := ?_) rfl (by kernel_rfl) (by kernel_rfl) (by kernel_rfl) (fun _ _ _ h => h) (Or.inl ⟨by rfl, ?_⟩) (by assumption) ?_
                rotate_left
                first | (focus ((intro w hSw; (try dsimp only at hSw); go_simp); (try with_reducible rfl); done)) | fail
                try simp only [Act.put, List.getElem_toArray, List.getElem_cons_zero, List.getElem_cons_succ, List.setIfInBounds_toArray, List.set_cons_zero, List.set_cons_succ]
                refine wpAnyH_take (i := 17) (v := ?_) rfl (by kernel_rfl) (by kernel_rfl) (by kernel_rfl) (fun _ _ _ h => h) (Or.inl ⟨by rfl, ?_⟩) (by assumption) ?_
                rotate_left
                first | (focus ((intro w hSw; (try dsimp only at hSw); go_simp); (try with_reducible rfl); done)) | fail
                try simp only [Act.put, List.getElem_toArray, List.getElem_cons_zero, List.getElem_cons_succ, List.setIfInBounds_toArray, List.set_cons_zero, List.set_cons_succ]
                refine wpAnyH_take (i := 18) (v := ?_) rfl (by kernel_rfl) (by kernel_rfl) (by kernel_rfl) (fun _ _ _ h => h) (Or.inl ⟨by rfl, ?_⟩) (by assumption) ?_
                rotate_left
                first | (focus ((intro w hSw; (try dsimp only at hSw); go_simp); (try with_reducible rfl); done)) | fail
                try simp only [Act.put, List.getElem_toArray, List.getElem_cons_zero, List.getElem_cons_succ, List.setIfInBounds_toArray, List.set_cons_zero, List.set_cons_succ]
                refine wpAnyH_take (i := 19) (v := ?_) rfl (by kernel_rfl) (by kernel_rfl) (by kernel_rfl) (fun _ _ _ h => h) (Or.inl ⟨by rfl, ?_⟩) (by assumption) ?_
                rotate_left
                first | (focus ((intro w hSw; (try dsimp only at hSw); go_simp); (try with_reducible rfl); done)) | fail
                try simp only [Act.put, List.getElem_toArray, List.getElem_cons_zero, List.getElem_cons_succ, List.setIfInBounds_toArray, List.set_cons_zero, List.set_cons_succ]
                refine wpAnyH_take (i := 20) (v := ?_) rfl (by kernel_rfl) (by kernel_rfl) (by kernel_rfl) (fun _ _ _ h => h) (Or.inl ⟨by rfl, ?_⟩) (by assumption) ?_
                rotate_left
                first | (focus ((intro w hSw; (try dsimp only at hSw); go_simp); (try with_reducible rfl); done)) | fail
                try simp only [Act.put, List.getElem_toArray, List.getElem_cons_zero, List.getElem_cons_succ, List.setIfInBounds_toArray, List.set_cons_zero, List.set_cons_succ]
                refine wpAnyH_take (i := 21) (v := ?_) rfl (by kernel_rfl) (by kernel_rfl) (by kernel_rfl) (fun _ _ _ h => h) (Or.inl ⟨by rfl, ?_⟩) (by assumption) ?_
                rotate_left
                first | (focus ((intro w hSw; (try dsimp only at hSw); go_simp); (try with_reducible rfl); done)) | fail
                try simp only [Act.put, List.getElem_toArray, List.getElem_cons_zero, List.getElem_cons_succ, List.setIfInBounds_toArray, List.set_cons_zero, List.set_cons_succ]
                refine wpAnyH_take (i := 22) (v := ?_) rfl (by kernel_rfl) (by kernel_rfl) (by kernel_rfl) (fun _ _ _ h => h) (Or.inl ⟨by rfl, ?_⟩) (by assumption) ?_
                rotate_left
                first | (focus ((intro w hSw; (try dsimp only at hSw); go_simp); (try with_reducible rfl); done)) | fail
                try simp only [Act.put, List.getElem_toArray, List.getElem_cons_zero, List.getElem_cons_succ, List.setIfInBounds_toArray, List.set_cons_zero, List.set_cons_succ]
                refine wpAnyH_take (i := 23) (v := ?_) rfl (by kernel_rfl) (by kernel_rfl) (by kernel_rfl) (fun _ _ _ h => h) (Or.inl ⟨by rfl, ?_⟩) (by assumption) ?_
                rotate_left
                first | (focus ((intro w hSw; (try dsimp only at hSw); go_simp); (try with_reducible rfl); done)) | fail
                try simp only [Act.put, List.getElem_toArray, List.getElem_cons_zero, List.getElem_cons_succ, List.setIfInBounds_toArray, List.set_cons_zero, List.set_cons_succ]
                refine wpAnyH_take (i := 24) (v := ?_) rfl (by kernel_rfl) (by kernel_rfl) (by kernel_rfl) (fun _ _ _ h => h) (Or.inl ⟨by rfl, ?_⟩) (by assumption) ?_
                rotate_left
                first | (focus ((intro w hSw; (try dsimp only at hSw); go_simp); (try with_reducible rfl); done)) | fail
                try simp only [Act.put, List.getElem_toArray, List.getElem_cons_zero, List.getElem_cons_succ, List.setIfInBounds_toArray, List.set_cons_zero, List.set_cons_succ]
                refine wpAnyH_take (i := 25) (v := ?_) rfl (by kernel_rfl) (by kernel_rfl) (by kernel_rfl) (fun _ _ _ h => h) (Or.inl ⟨by rfl, ?_⟩) (by assumption) ?_
                rotate_left
                first | (focus ((intro w hSw; (try dsimp only at hSw); go_simp); (try with_reducible rfl); done)) | fail
                try simp only [Act.put, List.getElem_toArray, List.getElem_cons_zero, List.getElem_cons_succ, List.setIfInBounds_toArray, List.set_cons_zero, List.set_cons_succ]
                refine wpAnyH_take (i := 26) (v := undef) rfl (by kernel_rfl) (by kernel_rfl) (by kernel_rfl) (fun _ _ _ h => h) (Or.inr ⟨by rfl, rfl⟩) (by assumption) ?_
                try simp only [Act.put, List.getElem_toArray, List.getElem_cons_zero, List.getElem_cons_succ, List.setIfInBounds_toArray, List.set_cons_zero, List.set_cons_succ]
                refine wpAnyH_take (i := 27) (v := undef) rfl (by kernel_rfl) (by kernel_rfl) (by kernel_rfl) (fun _ _ _ h => h) (Or.inr ⟨by rfl, rfl⟩) (by assumption) ?_
                try simp only [Act.put, List.getElem_toArray, List.getElem_cons_zero, List.getElem_cons_succ, List.setIfInBounds_toArray, List.set_cons_zero, List.set_cons_succ]
                refine wpAnyH_take (i := 28) (v := undef) rfl (by kernel_rfl) (by kernel_rfl) (by kernel_rfl) (fun _ _ _ h => h) (Or.inr ⟨by rfl, rfl⟩) (by assumption) ?_
                try simp only [Act.put, List.getElem_toArray, List.getElem_cons_zero, List.getElem_cons_succ, List.setIfInBounds_toArray, List.set_cons_zero, List.set_cons_succ]
                refine wpAnyH_take (i := 29) (v := undef) rfl (by kernel_rfl) (by kernel_rfl) (by kernel_rfl) (fun _ _ _ h => h) (Or.inr ⟨by rfl, rfl⟩) (by assumption) ?_
                try simp only [Act.put, List.getElem_toArray, List.getElem_cons_zero, List.getElem_cons_succ, List.setIfInBounds_toArray, List.set_cons_zero, List.set_cons_succ]
                refine wpAnyH_take (i := 30) (v := undef) rfl (by kernel_rfl) (by kernel_rfl) (by kernel_rfl) (fun _ _ _ h => h) (Or.inr ⟨by rfl, rfl⟩) (by assumption) ?_
                try simp only [Act.put, List.getElem_toArray, List.getElem_cons_zero, List.getElem_cons_succ, List.setIfInBounds_toArray, List.set_cons_zero, List.set_cons_succ]
                refine wpAnyH_take (i := 31) (v := undef) rfl (by kernel_rfl) (by kernel_rfl) (by kernel_rfl) (fun _ _ _ h => h) (Or.inr ⟨by rfl, rfl⟩) (by assumption) ?_
                try simp only [Act.put, List.getElem_toArray, List.getElem_cons_zero, List.getElem_cons_succ, List.setIfInBounds_toArray, List.set_cons_zero, List.set_cons_succ]
                refine wpAnyH_take (i := 32) (v := ?_) rfl (by kernel_rfl) (by kernel_rfl) (by kernel_rfl) (fun _ _ _ h => h) (Or.inl ⟨by rfl, ?_⟩) (by assumption) ?_
                rotate_left
                first | (focus ((intro w hSw; (try dsimp only at hSw); go_simp); (try with_reducible rfl); done)) | fail
                try simp only [Act.put, List.getElem_toArray, List.getElem_cons_zero, List.getElem_cons_succ, List.setIfInBounds_toArray, List.set_cons_zero, List.set_cons_succ]
                refine wpAnyH_take (i := 33) (v := ?_) rfl (by kernel_rfl) (by kernel_rfl) (by kernel_rfl) (fun _ _ _ h => h) (Or.inl ⟨by rfl, ?_⟩) (by assumption) ?_
                rotate_left
                first | (focus ((intro w hSw; (try dsimp only at hSw); go_simp); (try with_reducible rfl); done)) | fail
                try simp only [Act.put, List.getElem_toArray, List.getElem_cons_zero, List.getElem_cons_succ, List.setIfInBounds_toArray, List.set_cons_zero, List.set_cons_succ]
                refine wpAnyH_done (by kernel_rfl) ?_ _
                go_wp2
                go_roundw
                case rel => exact ⟨_, by omega, by go_num, ok_step HK.out.1 HXj.out HX.out, HEV1.out.drew.step B6.out⟩
                case measure => simp [intOf]; omega
      · have hX := Lib.hid (ovG_yes (p := none) (fun k x hx => HK.out.1 k x (by have := (List.getElem?_eq_some_iff.1 hx).1; have := HLn.out; omega) hx))
        go_wp2
        go_ret
        exact ⟨by rw [HV2.out, hX.out]; rfl, HK.out.2.2.2.1⟩
  · have t1 : decide ((64 : Int) < (n : Int)) = true := decide_eq_true (by omega)
    have t1n : decide (64 < n) = true := decide_eq_true (by omega)
    go_enter Tryz.func86, Tryz.ntmps86
    go_wp2
    go_ret
    exact ⟨by rw [HV.out, decide_eq_false h64]; rfl, HE.out.2.2.1⟩
end Go.Proofs.YtpakmeegldgjmaaGreat
/- Layer 20 (event): Item, Right. -/
namespace Go.Proofs.YtpakmeegldgjmaaGreat
open Go.RowKit
set_option linter.unusedVariables false
set_option linter.unusedSimpArgs false
set_option maxRecDepth 100000
attribute [local go_sem ↓] Go.wp_at_zero Go.wp_at_succ
attribute [local go_sem] bs_size bs_list bs_nil_list

theorem EV.range {N E c : Nat} {w W : World} {e : Ed} {A : Option Addr} (h : EV N w E e A c W) : W.rangeAt E 0 (evA e A c).toList := fun j v hv => by rw [Nat.zero_add, h.1.cell, ← Array.getElem?_toList]; exact hv
/-- The load of a whole event, at an operation of a plain region. -/
theorem ld_event {N E c : Nat} {w W : World} {e : Ed} {A : Option Addr} {ops : Array Oper} {rest : List Oper} {op : Oper} {a : Act} {Q : Exit → Act → World → Prop} (hg : Region.wanted op (yielded ops a.tmps) = true) (x : Operand) (ho : op.op = .load 59 x)
    (hx : a.eval x = .pointer (some ⟨E, 0, none⟩)) (hE : EV N w E e A c W) (h : wpList Tryz.prog ops Q rest (a.put op.dst (.agg #[.int .i64 e.dot.1.1, .int .i64 e.dot.1.2, .int .i64 e.dot.2, .int .i64 e.st.1, .int .i64 e.st.2.1, .int .i64 e.st.2.2, .int .i64 e.kind, .string (bs e.name), .string (bs e.dom), .string (bs e.path), .string (bs e.value), .bool e.ho, .bool e.se, .bool e.ht, .bool e.pe, .int .i64 e.exp, .int .i64 e.cre, .int .i64 e.acc, .slice A e.over.length c])) W) : wpList Tryz.prog ops Q (op :: rest) a W :=
  wpList_want hg fun K hK => wp_load_mid 59 x ho E 0 hx (evA e A c).toList _ hE.range Tryz.underlying59 rfl (by kernel_rfl) (hK _ _ h)
theorem EV.cells {N E c : Nat} {w W : World} {e : Ed} {A : Option Addr} (h : EV N w E e A c W) : W.cell? ⟨E, 0, none⟩ = some (.int .i64 e.dot.1.1) ∧ W.cell? ⟨E, 1, none⟩ = some (.int .i64 e.dot.1.2) ∧ W.cell? ⟨E, 2, none⟩ = some (.int .i64 e.dot.2) ∧ W.cell? ⟨E, 3, none⟩ = some (.int .i64 e.st.1) ∧ W.cell? ⟨E, 4, none⟩ = some (.int .i64 e.st.2.1) ∧ W.cell? ⟨E, 5, none⟩ = some (.int .i64 e.st.2.2) ∧ W.cell? ⟨E, 6, none⟩ = some (.int .i64 e.kind) ∧ W.cell? ⟨E, 18, none⟩ = some (.slice A e.over.length c) := by
  refine ⟨?_, ?_, ?_, ?_, ?_, ?_, ?_, ?_⟩
  all_goals (rw [h.1.cell]; rfl)
theorem eqIn_key0 (k : Nat) (n d p : List UInt8) (w : World) : (Op.equalIn (k + 2) 54 (.agg #[.string (bs n), .string (bs d), .string (bs p)]) (.agg #[.string ⟨#[]⟩, .string ⟨#[]⟩, .string ⟨#[]⟩])).run Tryz.prog w = .ok (decide (n = []) && decide (d = []) && decide (p = [])) w := by
  rw [run_equalIn_agg w (k + 1) _ _ _ (by kernel_rfl) (by kernel_rfl)]
  cases n <;> cases d <;> cases p <;> simp [Program.fieldsOf, Tryz.underlying54, Op.eqFields, go_sem, Tryz.underlying9]
theorem eqIn_cook0 (k : Nat) (v : List UInt8) (ho se ht pe : Bool) (exp cre acc : Int) (w : World) : (Op.equalIn (k + 2) 56 (.agg #[.string (bs v), .bool ho, .bool se, .bool ht, .bool pe, .int .i64 exp, .int .i64 cre, .int .i64 acc]) (.agg #[.string ⟨#[]⟩, .bool false, .bool false, .bool false, .bool false, .int .i64 0, .int .i64 0, .int .i64 0])).run Tryz.prog w =
    .ok (decide (v = []) && !ho && !se && !ht && !pe && decide (exp = 0) && decide (cre = 0) && decide (acc = 0)) w := by
  rw [run_equalIn_agg w (k + 1) _ _ _ (by kernel_rfl) (by kernel_rfl)]
  cases v with
  | cons x r => simp [Program.fieldsOf, Tryz.underlying56, Op.eqFields, go_sem, Tryz.underlying9, Tryz.underlying4, Tryz.underlying3]
  | nil =>
    cases ho <;> (try (simp [Program.fieldsOf, Tryz.underlying56, Op.eqFields, go_sem, Tryz.underlying9, Tryz.underlying4, Tryz.underlying3]; done))
    cases se <;> (try (simp [Program.fieldsOf, Tryz.underlying56, Op.eqFields, go_sem, Tryz.underlying9, Tryz.underlying4, Tryz.underlying3]; done))
    cases ht <;> (try (simp [Program.fieldsOf, Tryz.underlying56, Op.eqFields, go_sem, Tryz.underlying9, Tryz.underlying4, Tryz.underlying3]; done))
    cases pe <;> (try (simp [Program.fieldsOf, Tryz.underlying56, Op.eqFields, go_sem, Tryz.underlying9, Tryz.underlying4, Tryz.underlying3]; done))
    by_cases h1 : exp = 0 <;> by_cases h2 : cre = 0 <;> by_cases h3 : acc = 0 <;> simp [Program.fieldsOf, Tryz.underlying56, Op.eqFields, go_sem, Tryz.underlying9, Tryz.underlying4, Tryz.underlying3, h1, h2, h3]
theorem eql_item0 (e : Ed) (w : World) : (binOp .eql 121 (itV e) (.agg #[.string ⟨#[]⟩, .string ⟨#[]⟩, .string ⟨#[]⟩, .string ⟨#[]⟩, .bool false, .bool false, .bool false, .bool false, .int .i64 0, .int .i64 0, .int .i64 0])).run Tryz.prog w = .ok (.bool (zeroB e)) w := by
  have hk := fun w => eqIn_key0 9997 e.name e.dom e.path w
  have hc := fun w => eqIn_cook0 9997 e.value e.ho e.se e.ht e.pe e.exp e.cre e.acc w
  have hz : zeroB e = ((decide (e.name = []) && decide (e.dom = []) && decide (e.path = [])) && (decide (e.value = []) && !e.ho && !e.se && !e.ht && !e.pe && decide (e.exp = 0) && decide (e.cre = 0) && decide (e.acc = 0))) := by
    unfold zeroB
    cases decide (e.name = []) <;> cases decide (e.dom = []) <;> cases decide (e.path = []) <;> simp
  rw [hz]
  generalize (decide (e.name = []) && decide (e.dom = []) && decide (e.path = [])) = B1 at *
  generalize (decide (e.value = []) && !e.ho && !e.se && !e.ht && !e.pe && decide (e.exp = 0) && decide (e.cre = 0) && decide (e.acc = 0)) = B2 at *
  unfold itV
  rw [run_eql_struct, run_equalIn_agg w 9999 _ _ _ (by kernel_rfl) (by kernel_rfl)]
  cases B1 <;> cases B2 <;> simp [Program.fieldsOf, Tryz.underlying121, Op.eqFields, go_sem, hk, hc]
theorem item_any (e : Ed) (A : Option Addr) (c : Nat) (w : World) : Calls Tryz.prog 87 #[evV e A c] w fun r w' => r = .returned (itV e) ∧ Below w.heap.size w w' := by
  have hb : Below w.heap.size w ((w.alloc (.cells (evA e A c) 59)).alloc (.cells #[.string (bs e.name), .string (bs e.dom), .string (bs e.path), .string (bs e.value), .bool e.ho, .bool e.se, .bool e.ht, .bool e.pe, .int .i64 e.exp, .int .i64 e.cre, .int .i64 e.acc] 121)) := ((Below.refl _ _).alloc (Nat.le_refl _) _).alloc (by simp) _
  have hI := Whole.new (w.alloc (.cells (evA e A c) 59)) 121 #[.string (bs e.name), .string (bs e.dom), .string (bs e.path), .string (bs e.value), .bool e.ho, .bool e.se, .bool e.ht, .bool e.pe, .int .i64 e.exp, .int .i64 e.cre, .int .i64 e.acc]
  unfold evA at hb hI
  have HB := Lib.hid hb
  have HI := Lib.hid hI
  clear hb hI
  unfold evV itV
  go_enter Tryz.func87, Tryz.ntmps87
  go_wp2
  have x := HI.out
  simp only [World.size_alloc] at x
  generalize (w.alloc _).alloc _ = W9 at *
  have x0 : W9.cell? ⟨w.heap.size + 1, 0, none⟩ = some (.string (bs e.name)) := by rw [x.cell]; rfl
  have x1 : W9.cell? ⟨w.heap.size + 1, 1, none⟩ = some (.string (bs e.dom)) := by rw [x.cell]; rfl
  have x2 : W9.cell? ⟨w.heap.size + 1, 2, none⟩ = some (.string (bs e.path)) := by rw [x.cell]; rfl
  have x3 : W9.cell? ⟨w.heap.size + 1, 3, none⟩ = some (.string (bs e.value)) := by rw [x.cell]; rfl
  have x4 : W9.cell? ⟨w.heap.size + 1, 4, none⟩ = some (.bool e.ho) := by rw [x.cell]; rfl
  have x5 : W9.cell? ⟨w.heap.size + 1, 5, none⟩ = some (.bool e.se) := by rw [x.cell]; rfl
  have x6 : W9.cell? ⟨w.heap.size + 1, 6, none⟩ = some (.bool e.ht) := by rw [x.cell]; rfl
  have x7 : W9.cell? ⟨w.heap.size + 1, 7, none⟩ = some (.bool e.pe) := by rw [x.cell]; rfl
  have x8 : W9.cell? ⟨w.heap.size + 1, 8, none⟩ = some (.int .i64 e.exp) := by rw [x.cell]; rfl
  have x9 : W9.cell? ⟨w.heap.size + 1, 9, none⟩ = some (.int .i64 e.cre) := by rw [x.cell]; rfl
  have x10 : W9.cell? ⟨w.heap.size + 1, 10, none⟩ = some (.int .i64 e.acc) := by rw [x.cell]; rfl
  exact bodyPost_ret (v := .agg #[.string (bs e.name), .string (bs e.dom), .string (bs e.path), .string (bs e.value), .bool e.ho, .bool e.se, .bool e.ht, .bool e.pe, .int .i64 e.exp, .int .i64 e.cre, .int .i64 e.acc]) (by simp [results, Tryz.results87, go_sem, x0, x1, x2, x3, x4, x5, x6, x7, x8, x9, x10]) rfl ⟨rfl, HB.out⟩
/-- Are an event's texts short? -/
def short (e : Ed) : Prop := e.name.length ≤ 1000000 ∧ e.dom.length ≤ 1000000 ∧ e.path.length ≤ 1000000 ∧ e.value.length ≤ 1000000 ∧ e.over.length ≤ 1000000
theorem evB_eq (e : Ed) : evB e = (dotB e.dot.1.1 e.dot.1.2 e.dot.2 && stB e.st.1 e.st.2.1 e.st.2.2 && (e.st.2.2 == e.dot.1.1) && overB e.dot e.over &&
    (if e.kind = 2 then zeroB e && decide (0 < e.over.length) else if e.kind = 1 then itemB e.name e.dom e.path e.value e.pe e.exp e.cre e.acc else false)) := by
  unfold evB
  have e1 : decide (e.st.2.2 = e.dot.1.1) = (e.st.2.2 == e.dot.1.1) := by rw [Bool.eq_iff_iff]; simp
  have e2 : decide (e.over ≠ []) = decide (0 < e.over.length) := by rw [Bool.eq_iff_iff, decide_eq_true_eq, decide_eq_true_eq]; exact List.length_pos_iff.symm
  rw [e1, e2]
  rfl
set_option maxHeartbeats 4000000 in
theorem evright_no (e : Ed) (A : Option Addr) (c : Nat) (w : World) (h : MsAt w A e.over) (hs : short e) (hq : (dotB e.dot.1.1 e.dot.1.2 e.dot.2 && stB e.st.1 e.st.2.1 e.st.2.2 && (e.st.2.2 == e.dot.1.1) && overB e.dot e.over) = false) : Calls Tryz.prog 43 #[evV e A c] w fun r w' => r = .returned (.bool false) ∧ Below w.heap.size w w' := by
  have HE := Lib.hid (ev_new w e A c h)
  have CD := Lib.hid (fun w => right_any e.dot.1.1 e.dot.1.2 e.dot.2 w)
  have CS := Lib.hid (fun w => cright_any e.st.1 e.st.2.1 e.st.2.2 w)
  have CO := Lib.hid (fun (W : World) (hm : MsAt W A e.over) => over_any e A c W hm hs.2.2.2.2)
  have CI := Lib.hid (fun w => item_any e A c w)
  have CR := Lib.hid (fun w => cright14_any e w hs.1 hs.2.1 hs.2.2.1 hs.2.2.2.1)
  have hEq := fun w => eql_item0 e w
  clear h hs
  unfold dotV at CD
  unfold stV at CS
  unfold evV at CO CI ⊢
  unfold evA at HE
  unfold itV at CI CR hEq
  generalize dotB e.dot.1.1 e.dot.1.2 e.dot.2 = P1 at *
  generalize stB e.st.1 e.st.2.1 e.st.2.2 = P2 at *
  generalize overB e.dot e.over = P3 at *
  go_enter Tryz.func43, Tryz.ntmps43
  cases q1 : P1 with
  | true =>
    cases q2 : P2 with
    | true =>
      cases q3 : (e.st.2.2 == e.dot.1.1) with
      | true =>
        have t3 : (e.st.2.2 != e.dot.1.1) = false := by rw [bne, q3]; rfl
        cases q4 : P3 with
        | true =>
          rw [q1, q2, q3, q4] at hq
          cases hq
        | false =>
          go_wp2_with (refine ld_event (by rfl) _ rfl rfl HE.out ?_)
          generalize w.alloc (.cells #[.int .i64 e.dot.1.1, .int .i64 e.dot.1.2, .int .i64 e.dot.2, .int .i64 e.st.1, .int .i64 e.st.2.1, .int .i64 e.st.2.2, .int .i64 e.kind, .string (bs e.name), .string (bs e.dom), .string (bs e.path), .string (bs e.value), .bool e.ho, .bool e.se, .bool e.ht, .bool e.pe, .int .i64 e.exp, .int .i64 e.cre, .int .i64 e.acc, .slice A e.over.length c] 59) = W0 at *
          refine (CD.out _).mono ?_; rintro r w2 ⟨rfl, b2⟩
          have hE := Lib.hid (HE.out.step b2)
          clear b2 HE
          have HE := hE
          clear hE
          try clear k0 k1 k2 k3 k4 k5 k6 k18
          obtain ⟨k0, k1, k2, k3, k4, k5, k6, k18⟩ := HE.out.cells
          go_wp2_with (refine ld_event (by rfl) _ rfl rfl HE.out ?_)
          refine (CS.out _).mono ?_; rintro r w3 ⟨rfl, b3⟩
          have hE := Lib.hid (HE.out.step b3)
          clear b3 HE
          have HE := hE
          clear hE
          try clear k0 k1 k2 k3 k4 k5 k6 k18
          obtain ⟨k0, k1, k2, k3, k4, k5, k6, k18⟩ := HE.out.cells
          go_wp2_with (refine ld_event (by rfl) _ rfl rfl HE.out ?_)
          refine (CO.out _ (HE.out.2.1.more HE.out.2.2.2)).mono ?_; rintro r w4 ⟨rfl, b4⟩
          have hE := Lib.hid (HE.out.step b4)
          clear b4 HE
          have HE := hE
          clear hE
          try clear k0 k1 k2 k3 k4 k5 k6 k18
          obtain ⟨k0, k1, k2, k3, k4, k5, k6, k18⟩ := HE.out.cells
          go_wp2
          go_ret
          exact ⟨rfl, HE.out.2.2.1⟩
      | false =>
        have t3 : (e.st.2.2 != e.dot.1.1) = true := by rw [bne, q3]; rfl
        go_wp2_with (refine ld_event (by rfl) _ rfl rfl HE.out ?_)
        generalize w.alloc (.cells #[.int .i64 e.dot.1.1, .int .i64 e.dot.1.2, .int .i64 e.dot.2, .int .i64 e.st.1, .int .i64 e.st.2.1, .int .i64 e.st.2.2, .int .i64 e.kind, .string (bs e.name), .string (bs e.dom), .string (bs e.path), .string (bs e.value), .bool e.ho, .bool e.se, .bool e.ht, .bool e.pe, .int .i64 e.exp, .int .i64 e.cre, .int .i64 e.acc, .slice A e.over.length c] 59) = W0 at *
        refine (CD.out _).mono ?_; rintro r w2 ⟨rfl, b2⟩
        have hE := Lib.hid (HE.out.step b2)
        clear b2 HE
        have HE := hE
        clear hE
        try clear k0 k1 k2 k3 k4 k5 k6 k18
        obtain ⟨k0, k1, k2, k3, k4, k5, k6, k18⟩ := HE.out.cells
        go_wp2_with (refine ld_event (by rfl) _ rfl rfl HE.out ?_)
        refine (CS.out _).mono ?_; rintro r w3 ⟨rfl, b3⟩
        have hE := Lib.hid (HE.out.step b3)
        clear b3 HE
        have HE := hE
        clear hE
        try clear k0 k1 k2 k3 k4 k5 k6 k18
        obtain ⟨k0, k1, k2, k3, k4, k5, k6, k18⟩ := HE.out.cells
        go_wp2
        go_ret
        exact ⟨rfl, HE.out.2.2.1⟩
    | false =>
      go_wp2_with (refine ld_event (by rfl) _ rfl rfl HE.out ?_)
      generalize w.alloc (.cells #[.int .i64 e.dot.1.1, .int .i64 e.dot.1.2, .int .i64 e.dot.2, .int .i64 e.st.1, .int .i64 e.st.2.1, .int .i64 e.st.2.2, .int .i64 e.kind, .string (bs e.name), .string (bs e.dom), .string (bs e.path), .string (bs e.value), .bool e.ho, .bool e.se, .bool e.ht, .bool e.pe, .int .i64 e.exp, .int .i64 e.cre, .int .i64 e.acc, .slice A e.over.length c] 59) = W0 at *
      refine (CD.out _).mono ?_; rintro r w2 ⟨rfl, b2⟩
      have hE := Lib.hid (HE.out.step b2)
      clear b2 HE
      have HE := hE
      clear hE
      try clear k0 k1 k2 k3 k4 k5 k6 k18
      obtain ⟨k0, k1, k2, k3, k4, k5, k6, k18⟩ := HE.out.cells
      go_wp2_with (refine ld_event (by rfl) _ rfl rfl HE.out ?_)
      refine (CS.out _).mono ?_; rintro r w3 ⟨rfl, b3⟩
      have hE := Lib.hid (HE.out.step b3)
      clear b3 HE
      have HE := hE
      clear hE
      try clear k0 k1 k2 k3 k4 k5 k6 k18
      obtain ⟨k0, k1, k2, k3, k4, k5, k6, k18⟩ := HE.out.cells
      go_wp2
      go_ret
      exact ⟨rfl, HE.out.2.2.1⟩
  | false =>
    go_wp2_with (refine ld_event (by rfl) _ rfl rfl HE.out ?_)
    generalize w.alloc (.cells #[.int .i64 e.dot.1.1, .int .i64 e.dot.1.2, .int .i64 e.dot.2, .int .i64 e.st.1, .int .i64 e.st.2.1, .int .i64 e.st.2.2, .int .i64 e.kind, .string (bs e.name), .string (bs e.dom), .string (bs e.path), .string (bs e.value), .bool e.ho, .bool e.se, .bool e.ht, .bool e.pe, .int .i64 e.exp, .int .i64 e.cre, .int .i64 e.acc, .slice A e.over.length c] 59) = W0 at *
    refine (CD.out _).mono ?_; rintro r w2 ⟨rfl, b2⟩
    have hE := Lib.hid (HE.out.step b2)
    clear b2 HE
    have HE := hE
    clear hE
    try clear k0 k1 k2 k3 k4 k5 k6 k18
    obtain ⟨k0, k1, k2, k3, k4, k5, k6, k18⟩ := HE.out.cells
    go_wp2
    go_ret
    exact ⟨rfl, HE.out.2.2.1⟩
set_option maxHeartbeats 4000000 in
theorem evright_2 (e : Ed) (A : Option Addr) (c : Nat) (w : World) (h : MsAt w A e.over) (hs : short e) (hq : (dotB e.dot.1.1 e.dot.1.2 e.dot.2 && stB e.st.1 e.st.2.1 e.st.2.2 && (e.st.2.2 == e.dot.1.1) && overB e.dot e.over) = true) (hk : e.kind = 2) : Calls Tryz.prog 43 #[evV e A c] w fun r w' => r = .returned (.bool (zeroB e && decide (0 < e.over.length))) ∧ Below w.heap.size w w' := by
  have HE := Lib.hid (ev_new w e A c h)
  have CD := Lib.hid (fun w => right_any e.dot.1.1 e.dot.1.2 e.dot.2 w)
  have CS := Lib.hid (fun w => cright_any e.st.1 e.st.2.1 e.st.2.2 w)
  have CO := Lib.hid (fun (W : World) (hm : MsAt W A e.over) => over_any e A c W hm hs.2.2.2.2)
  have CI := Lib.hid (fun w => item_any e A c w)
  have CR := Lib.hid (fun w => cright14_any e w hs.1 hs.2.1 hs.2.2.1 hs.2.2.2.1)
  have hEq := fun w => eql_item0 e w
  clear h hs
  unfold dotV at CD
  unfold stV at CS
  unfold evV at CO CI ⊢
  unfold evA at HE
  unfold itV at CI CR hEq
  generalize dotB e.dot.1.1 e.dot.1.2 e.dot.2 = P1 at *
  generalize stB e.st.1 e.st.2.1 e.st.2.2 = P2 at *
  generalize overB e.dot e.over = P3 at *
  simp only [Bool.and_eq_true] at hq
  obtain ⟨⟨⟨q1, q2⟩, q3⟩, q4⟩ := hq
  rw [q1] at CD
  rw [q2] at CS
  rw [q4] at CO
  have t3 : (e.st.2.2 != e.dot.1.1) = false := by rw [bne, q3]; rfl
  clear q1 q2 q3 q4
  have t2 : (e.kind == 2) = true := by rw [beq_iff_eq]; exact hk
  clear hk
  generalize zeroB e = P5 at *
  go_enter Tryz.func43, Tryz.ntmps43
  go_wp2_with (refine ld_event (by rfl) _ rfl rfl HE.out ?_)
  generalize w.alloc (.cells #[.int .i64 e.dot.1.1, .int .i64 e.dot.1.2, .int .i64 e.dot.2, .int .i64 e.st.1, .int .i64 e.st.2.1, .int .i64 e.st.2.2, .int .i64 e.kind, .string (bs e.name), .string (bs e.dom), .string (bs e.path), .string (bs e.value), .bool e.ho, .bool e.se, .bool e.ht, .bool e.pe, .int .i64 e.exp, .int .i64 e.cre, .int .i64 e.acc, .slice A e.over.length c] 59) = W0 at *
  refine (CD.out _).mono ?_; rintro r w2 ⟨rfl, b2⟩
  have hE := Lib.hid (HE.out.step b2)
  clear b2 HE
  have HE := hE
  clear hE
  try clear k0 k1 k2 k3 k4 k5 k6 k18
  obtain ⟨k0, k1, k2, k3, k4, k5, k6, k18⟩ := HE.out.cells
  go_wp2_with (refine ld_event (by rfl) _ rfl rfl HE.out ?_)
  refine (CS.out _).mono ?_; rintro r w3 ⟨rfl, b3⟩
  have hE := Lib.hid (HE.out.step b3)
  clear b3 HE
  have HE := hE
  clear hE
  try clear k0 k1 k2 k3 k4 k5 k6 k18
  obtain ⟨k0, k1, k2, k3, k4, k5, k6, k18⟩ := HE.out.cells
  go_wp2_with (refine ld_event (by rfl) _ rfl rfl HE.out ?_)
  refine (CO.out _ (HE.out.2.1.more HE.out.2.2.2)).mono ?_; rintro r w4 ⟨rfl, b4⟩
  have hE := Lib.hid (HE.out.step b4)
  clear b4 HE
  have HE := hE
  clear hE
  try clear k0 k1 k2 k3 k4 k5 k6 k18
  obtain ⟨k0, k1, k2, k3, k4, k5, k6, k18⟩ := HE.out.cells
  go_wp2_with (refine ld_event (by rfl) _ rfl rfl HE.out ?_)
  refine (CI.out _).mono ?_; rintro r w5 ⟨rfl, b5⟩
  have hE := Lib.hid (HE.out.step b5)
  clear b5 HE
  have HE := hE
  clear hE
  try clear k0 k1 k2 k3 k4 k5 k6 k18
  obtain ⟨k0, k1, k2, k3, k4, k5, k6, k18⟩ := HE.out.cells
  cases P5 with
  | false =>
    go_wp2
    go_ret
    exact ⟨rfl, HE.out.2.2.1⟩
  | true =>
    cases q6 : decide (0 < e.over.length) with
    | true =>
      have t6 : decide ((0 : Int) < (e.over.length : Int)) = true := decide_eq_true (by have := of_decide_eq_true q6; omega)
      go_wp2
      go_ret
      exact ⟨by rw [q6]; rfl, HE.out.2.2.1⟩
    | false =>
      have t6 : decide ((0 : Int) < (e.over.length : Int)) = false := decide_eq_false (by have := of_decide_eq_false q6; omega)
      go_wp2
      go_ret
      exact ⟨by rw [q6]; rfl, HE.out.2.2.1⟩
set_option maxHeartbeats 4000000 in
theorem evright_1 (e : Ed) (A : Option Addr) (c : Nat) (w : World) (h : MsAt w A e.over) (hs : short e) (hq : (dotB e.dot.1.1 e.dot.1.2 e.dot.2 && stB e.st.1 e.st.2.1 e.st.2.2 && (e.st.2.2 == e.dot.1.1) && overB e.dot e.over) = true) (hk : e.kind = 1) : Calls Tryz.prog 43 #[evV e A c] w fun r w' => r = .returned (.bool (itemB e.name e.dom e.path e.value e.pe e.exp e.cre e.acc)) ∧ Below w.heap.size w w' := by
  have HE := Lib.hid (ev_new w e A c h)
  have CD := Lib.hid (fun w => right_any e.dot.1.1 e.dot.1.2 e.dot.2 w)
  have CS := Lib.hid (fun w => cright_any e.st.1 e.st.2.1 e.st.2.2 w)
  have CO := Lib.hid (fun (W : World) (hm : MsAt W A e.over) => over_any e A c W hm hs.2.2.2.2)
  have CI := Lib.hid (fun w => item_any e A c w)
  have CR := Lib.hid (fun w => cright14_any e w hs.1 hs.2.1 hs.2.2.1 hs.2.2.2.1)
  have hEq := fun w => eql_item0 e w
  clear h hs
  unfold dotV at CD
  unfold stV at CS
  unfold evV at CO CI ⊢
  unfold evA at HE
  unfold itV at CI CR hEq
  generalize dotB e.dot.1.1 e.dot.1.2 e.dot.2 = P1 at *
  generalize stB e.st.1 e.st.2.1 e.st.2.2 = P2 at *
  generalize overB e.dot e.over = P3 at *
  simp only [Bool.and_eq_true] at hq
  obtain ⟨⟨⟨q1, q2⟩, q3⟩, q4⟩ := hq
  rw [q1] at CD
  rw [q2] at CS
  rw [q4] at CO
  have t3 : (e.st.2.2 != e.dot.1.1) = false := by rw [bne, q3]; rfl
  clear q1 q2 q3 q4
  have t1 : (e.kind == 1) = true := by rw [beq_iff_eq]; exact hk
  have t2 : (e.kind == 2) = false := by rw [beq_eq_false_iff_ne, hk]; decide
  clear hk
  generalize itemB e.name e.dom e.path e.value e.pe e.exp e.cre e.acc = P4 at *
  go_enter Tryz.func43, Tryz.ntmps43
  go_wp2_with (refine ld_event (by rfl) _ rfl rfl HE.out ?_)
  generalize w.alloc (.cells #[.int .i64 e.dot.1.1, .int .i64 e.dot.1.2, .int .i64 e.dot.2, .int .i64 e.st.1, .int .i64 e.st.2.1, .int .i64 e.st.2.2, .int .i64 e.kind, .string (bs e.name), .string (bs e.dom), .string (bs e.path), .string (bs e.value), .bool e.ho, .bool e.se, .bool e.ht, .bool e.pe, .int .i64 e.exp, .int .i64 e.cre, .int .i64 e.acc, .slice A e.over.length c] 59) = W0 at *
  refine (CD.out _).mono ?_; rintro r w2 ⟨rfl, b2⟩
  have hE := Lib.hid (HE.out.step b2)
  clear b2 HE
  have HE := hE
  clear hE
  try clear k0 k1 k2 k3 k4 k5 k6 k18
  obtain ⟨k0, k1, k2, k3, k4, k5, k6, k18⟩ := HE.out.cells
  go_wp2_with (refine ld_event (by rfl) _ rfl rfl HE.out ?_)
  refine (CS.out _).mono ?_; rintro r w3 ⟨rfl, b3⟩
  have hE := Lib.hid (HE.out.step b3)
  clear b3 HE
  have HE := hE
  clear hE
  try clear k0 k1 k2 k3 k4 k5 k6 k18
  obtain ⟨k0, k1, k2, k3, k4, k5, k6, k18⟩ := HE.out.cells
  go_wp2_with (refine ld_event (by rfl) _ rfl rfl HE.out ?_)
  refine (CO.out _ (HE.out.2.1.more HE.out.2.2.2)).mono ?_; rintro r w4 ⟨rfl, b4⟩
  have hE := Lib.hid (HE.out.step b4)
  clear b4 HE
  have HE := hE
  clear hE
  try clear k0 k1 k2 k3 k4 k5 k6 k18
  obtain ⟨k0, k1, k2, k3, k4, k5, k6, k18⟩ := HE.out.cells
  go_wp2_with (refine ld_event (by rfl) _ rfl rfl HE.out ?_)
  refine (CI.out _).mono ?_; rintro r w5 ⟨rfl, b5⟩
  have hE := Lib.hid (HE.out.step b5)
  clear b5 HE
  have HE := hE
  clear hE
  try clear k0 k1 k2 k3 k4 k5 k6 k18
  obtain ⟨k0, k1, k2, k3, k4, k5, k6, k18⟩ := HE.out.cells
  go_wp2_with fail
  refine (CR.out _).mono ?_; rintro r w6 ⟨rfl, b6⟩
  have hE := Lib.hid (HE.out.step b6)
  clear b6 HE
  have HE := hE
  clear hE
  go_wp2
  go_ret
  exact ⟨rfl, HE.out.2.2.1⟩
set_option maxHeartbeats 4000000 in
theorem evright_0 (e : Ed) (A : Option Addr) (c : Nat) (w : World) (h : MsAt w A e.over) (hs : short e) (hq : (dotB e.dot.1.1 e.dot.1.2 e.dot.2 && stB e.st.1 e.st.2.1 e.st.2.2 && (e.st.2.2 == e.dot.1.1) && overB e.dot e.over) = true) (h2 : e.kind ≠ 2) (h1 : e.kind ≠ 1) : Calls Tryz.prog 43 #[evV e A c] w fun r w' => r = .returned (.bool false) ∧ Below w.heap.size w w' := by
  have HE := Lib.hid (ev_new w e A c h)
  have CD := Lib.hid (fun w => right_any e.dot.1.1 e.dot.1.2 e.dot.2 w)
  have CS := Lib.hid (fun w => cright_any e.st.1 e.st.2.1 e.st.2.2 w)
  have CO := Lib.hid (fun (W : World) (hm : MsAt W A e.over) => over_any e A c W hm hs.2.2.2.2)
  have CI := Lib.hid (fun w => item_any e A c w)
  have CR := Lib.hid (fun w => cright14_any e w hs.1 hs.2.1 hs.2.2.1 hs.2.2.2.1)
  have hEq := fun w => eql_item0 e w
  clear h hs
  unfold dotV at CD
  unfold stV at CS
  unfold evV at CO CI ⊢
  unfold evA at HE
  unfold itV at CI CR hEq
  generalize dotB e.dot.1.1 e.dot.1.2 e.dot.2 = P1 at *
  generalize stB e.st.1 e.st.2.1 e.st.2.2 = P2 at *
  generalize overB e.dot e.over = P3 at *
  simp only [Bool.and_eq_true] at hq
  obtain ⟨⟨⟨q1, q2⟩, q3⟩, q4⟩ := hq
  rw [q1] at CD
  rw [q2] at CS
  rw [q4] at CO
  have t3 : (e.st.2.2 != e.dot.1.1) = false := by rw [bne, q3]; rfl
  clear q1 q2 q3 q4
  have t1 : (e.kind == 1) = false := by rw [beq_eq_false_iff_ne]; exact h1
  have t2 : (e.kind == 2) = false := by rw [beq_eq_false_iff_ne]; exact h2
  clear h1 h2
  go_enter Tryz.func43, Tryz.ntmps43
  go_wp2_with (refine ld_event (by rfl) _ rfl rfl HE.out ?_)
  generalize w.alloc (.cells #[.int .i64 e.dot.1.1, .int .i64 e.dot.1.2, .int .i64 e.dot.2, .int .i64 e.st.1, .int .i64 e.st.2.1, .int .i64 e.st.2.2, .int .i64 e.kind, .string (bs e.name), .string (bs e.dom), .string (bs e.path), .string (bs e.value), .bool e.ho, .bool e.se, .bool e.ht, .bool e.pe, .int .i64 e.exp, .int .i64 e.cre, .int .i64 e.acc, .slice A e.over.length c] 59) = W0 at *
  refine (CD.out _).mono ?_; rintro r w2 ⟨rfl, b2⟩
  have hE := Lib.hid (HE.out.step b2)
  clear b2 HE
  have HE := hE
  clear hE
  try clear k0 k1 k2 k3 k4 k5 k6 k18
  obtain ⟨k0, k1, k2, k3, k4, k5, k6, k18⟩ := HE.out.cells
  go_wp2_with (refine ld_event (by rfl) _ rfl rfl HE.out ?_)
  refine (CS.out _).mono ?_; rintro r w3 ⟨rfl, b3⟩
  have hE := Lib.hid (HE.out.step b3)
  clear b3 HE
  have HE := hE
  clear hE
  try clear k0 k1 k2 k3 k4 k5 k6 k18
  obtain ⟨k0, k1, k2, k3, k4, k5, k6, k18⟩ := HE.out.cells
  go_wp2_with (refine ld_event (by rfl) _ rfl rfl HE.out ?_)
  refine (CO.out _ (HE.out.2.1.more HE.out.2.2.2)).mono ?_; rintro r w4 ⟨rfl, b4⟩
  have hE := Lib.hid (HE.out.step b4)
  clear b4 HE
  have HE := hE
  clear hE
  try clear k0 k1 k2 k3 k4 k5 k6 k18
  obtain ⟨k0, k1, k2, k3, k4, k5, k6, k18⟩ := HE.out.cells
  go_wp2
  go_ret
  exact ⟨rfl, HE.out.2.2.1⟩
theorem evright_any (e : Ed) (A : Option Addr) (c : Nat) (w : World) (h : MsAt w A e.over) (hs : short e) : Calls Tryz.prog 43 #[evV e A c] w fun r w' => r = .returned (.bool (evB e)) ∧ Below w.heap.size w w' := by
  rw [evB_eq]
  cases hq : (dotB e.dot.1.1 e.dot.1.2 e.dot.2 && stB e.st.1 e.st.2.1 e.st.2.2 && (e.st.2.2 == e.dot.1.1) && overB e.dot e.over) with
  | false => exact evright_no e A c w h hs hq
  | true =>
    rw [Bool.true_and]
    by_cases h2 : e.kind = 2
    · rw [if_pos h2]; exact evright_2 e A c w h hs hq h2
    · rw [if_neg h2]
      by_cases h1 : e.kind = 1
      · rw [if_pos h1]; exact evright_1 e A c w h hs hq h1
      · rw [if_neg h1]; exact evright_0 e A c w h hs hq h2 h1
end Go.Proofs.YtpakmeegldgjmaaGreat
