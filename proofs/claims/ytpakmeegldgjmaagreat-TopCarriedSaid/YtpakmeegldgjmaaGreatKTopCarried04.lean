/- TopCarried: part 4 of what the proof rests on: contracts of functions, and plain laws. -/
import Derived.WalkKit
import Derived.ProofKit
import Derived.OpenShut
import Derived.Handy
import Derived.Outline
import Derived.Lib.Hide
import Derived.Deep.Draws
import Derived.Laws.OwnMore
import Derived.Laws.AppendOwn
import Derived.Laws.AppendOwnNone
import Derived.Laws.BitsAllLaws
import Derived.Laws.Bits64b
import Derived.Lib.AppendZeros
import Derived.Lib.AppendZerosOnto
import Derived.Laws.CopyRow
import Derived.Lib.AppendStr
import Derived.Test.YtpakmeegldgjmaaGreatRows
import Derived.Lib.Zigzag
import Derived.Deep.QuietTactic
import Derived.BigQuiet
import Derived.Deep.LoopGhost
import Derived.BigRegion
import Derived.RegionTactic
import Derived.Deep.WholeRow
import Derived.Deep.Slices
import Derived.Lib.Varint
import Derived.WalkSpells
import Derived.Laws.BytesString
import Derived.Laws.Concat
import Derived.IntWalk
import Derived.Test.YtpakmeegldgjmaaGreatProg
import Derived.Deep.RegionHeld3
import Derived.StillTailTactics
import Derived.Laws.StructEq
import Derived.Lib.SmallJoins
import Derived.Deep.Strs
import Derived.Laws.IdiomStrings
import Derived.Lib.SlBytesConst
import Derived.Deep.RegionWith
import Derived.Maps.Own
import Derived.Maps.OwnSet
import Derived.Maps.Range
import Derived.DeepKeys4
import Derived.ChangeKeysEq
import Derived.DeepKeys2
import Derived.RangeFuncNested
import Derived.RangeFuncBound
import Derived.RangeFuncCalls
import Derived.RangeFuncLeaves
import Derived.Sort.MapsRangeIn
import Derived.OwnWalkIn
import Derived.TacticsInMore
import Derived.RegionIn
import Derived.LoopNIn
import Derived.LoopIn
import Derived.Maps.AppendAt
import Derived.Sort.Grow
import Derived.Shelf.GgSortFunc.InsertionK
import Derived.Shelf.SlSortCmp.NoneTotal
import Derived.WideKeyEntry
import Derived.Deep.CutBlock
import Derived.Deep.CutRange
import Derived.Deep.RegionLaw
import Derived.Deep.DeepCutAuto
import Derived.Deep.DrawnRows
import Derived.WalkLawsBesides
import Derived.Deep.MidRow
import Derived.Laws.Strings2
import Derived.Test.YtpakmeegldgjmaaGreatKTopCarried03
/- Layer 20 (event): over. -/
namespace Go.Proofs.YtpakmeegldgjmaaGreat
open Go.RowKit
set_option linter.unusedVariables false
set_option linter.unusedSimpArgs false
set_option maxRecDepth 100000
attribute [local go_sem ↓] Go.wp_at_zero Go.wp_at_succ

/-- May a dot be behind another one, over which an event is? -/
def okP (o : Dt) (p : Option Dt) (x : Dt) : Bool := rightD x && (match p with | none => true | some q => dLt q x) && !(decide (x.1 = o.1) && decide (o.2 ≤ x.2))
def prevAt {α : Type} (p : Option α) (L : List α) (j : Nat) : Option α := if j = 0 then p else L[j - 1]?
theorem prevAt_cons {α : Type} (p : Option α) (d : α) (r : List α) (j : Nat) : prevAt p (d :: r) (j + 1) = prevAt (some d) r j := by
  unfold prevAt
  rw [if_neg (by omega)]
  cases j with
  | zero => rfl
  | succ j => rw [if_neg (by omega)]; simp
theorem ovG_cons (o : Dt) (p : Option Dt) (d : Dt) (r : List Dt) : ovG o p (d :: r) = (okP o p d && ovG o (some d) r) := rfl
theorem ovG_yes {o : Dt} {p : Option Dt} {L : List Dt} (h : ∀ j x, L[j]? = some x → okP o (prevAt p L j) x = true) : ovG o p L = true := by
  induction L generalizing p with
  | nil => rfl
  | cons d r ih =>
    have h0 : okP o p d = true := h 0 d rfl
    rw [ovG_cons, h0, ih (p := some d) (fun j x hx => by have := h (j + 1) x hx; rwa [prevAt_cons] at this)]
    rfl
theorem ovG_no {o : Dt} {p : Option Dt} {L : List Dt} {j : Nat} {x : Dt} (hx : L[j]? = some x) (h : okP o (prevAt p L j) x = false) : ovG o p L = false := by
  induction L generalizing p j with
  | nil => simp at hx
  | cons d r ih =>
    rw [ovG_cons]
    cases j with
    | zero =>
      simp at hx
      subst hx
      have h' : okP o p d = false := h
      rw [h']
      rfl
    | succ j =>
      rw [prevAt_cons] at h
      rw [ih (p := some d) (j := j) (by simpa using hx) h, Bool.and_false]
theorem ok_step {o : Dt} {L : List Dt} {j : Nat} {x0 : Dt} (h : ∀ k x, k < j → L[k]? = some x → okP o (prevAt none L k) x = true) (hx : L[j]? = some x0) (h0 : okP o (prevAt none L j) x0 = true) :
    ∀ k x, k < j + 1 → L[k]? = some x → okP o (prevAt none L k) x = true := fun k x hk hx' => by
  by_cases hkj : k = j
  · subst hkj
    rw [hx] at hx'
    injection hx' with hx'
    subst hx'
    exact h0
  · exact h k x (by omega) hx'
theorem less_dLt (d i s d' i' s' : Int) (w : World) : Calls Tryz.prog 98 #[dotV d i s, dotV d' i' s'] w fun e w' => e = .returned (.bool (dLt ((d, i), s) ((d', i'), s'))) ∧ Below w.heap.size w w' := by
  have h := less_any d i s d' i' s' w
  rw [ord_less] at h
  have e := rless_dLt ((d, i), s) ((d', i'), s')
  simp only at e
  rw [e] at h
  exact h
/-- An event's cells, where its Over lies at A. -/
def evA (e : Ed) (A : Option Addr) (c : Nat) : Array Value := #[.int .i64 e.dot.1.1, .int .i64 e.dot.1.2, .int .i64 e.dot.2, .int .i64 e.st.1, .int .i64 e.st.2.1, .int .i64 e.st.2.2, .int .i64 e.kind, .string (bs e.name), .string (bs e.dom), .string (bs e.path), .string (bs e.value), .bool e.ho, .bool e.se, .bool e.ht, .bool e.pe, .int .i64 e.exp, .int .i64 e.cre, .int .i64 e.acc, .slice A e.over.length c]
def evV (e : Ed) (A : Option Addr) (c : Nat) : Value := .agg #[.int .i64 e.dot.1.1, .int .i64 e.dot.1.2, .int .i64 e.dot.2, .int .i64 e.st.1, .int .i64 e.st.2.1, .int .i64 e.st.2.2, .int .i64 e.kind, .string (bs e.name), .string (bs e.dom), .string (bs e.path), .string (bs e.value), .bool e.ho, .bool e.se, .bool e.ht, .bool e.pe, .int .i64 e.exp, .int .i64 e.cre, .int .i64 e.acc, .slice A e.over.length c]
/-- An event in a box, and its Over. -/
def EV (N : Nat) (w : World) (E : Nat) (e : Ed) (A : Option Addr) (c : Nat) (W : World) : Prop := Whole W E 59 (evA e A c) ∧ Ds W N A e.over ∧ Below N w W ∧ N ≤ W.heap.size
theorem EV.step {N E c : Nat} {w W W' : World} {e : Ed} {A : Option Addr} (h : EV N w E e A c W) (b : Below W.heap.size W W') : EV N w E e A c W' :=
  ⟨h.1.below b h.1.lt, Ds.below h.2.1 (below_of_le b h.2.2.2), h.2.2.1.trans (below_of_le b h.2.2.2), Nat.le_trans h.2.2.2 b.size⟩
theorem EV.drew {N E c : Nat} {w W : World} {e : Ed} {A : Option Addr} (h : EV N w E e A c W) : EV N w E e A c W.drew := h.step (Below.refl _ _).drew
theorem EV.alloc {N E c : Nat} {w W : World} {e : Ed} {A : Option Addr} (h : EV N w E e A c W) (o : Obj) : EV N w E e A c (W.alloc o) := h.step ((Below.refl _ _).alloc (Nat.le_refl _) o)
theorem ev_new (w : World) (e : Ed) (A : Option Addr) (c : Nat) (h : MsAt w A e.over) : EV w.heap.size w w.heap.size e A c (w.alloc (.cells (evA e A c) 59)) :=
  ⟨Whole.new _ _ _, Ds.below h ((Below.refl _ _).alloc (Nat.le_refl _) _), (Below.refl _ _).alloc (Nat.le_refl _) _, by simp⟩
set_option maxHeartbeats 8000000 in
theorem over_any (e : Ed) (A : Option Addr) (c : Nat) (w : World) (h : MsAt w A e.over) (hn : e.over.length ≤ 1000000) : Calls Tryz.prog 86 #[evV e A c] w fun r w' => r = .returned (.bool (overB e.dot e.over)) ∧ Below w.heap.size w w' := by
  have hE := ev_new w e A c h
  unfold evA at hE
  unfold evV
  obtain ⟨⟨⟨o1, o2⟩, o3⟩, st, kind, name, dom, path, value, ho, se, ht, pe, exp, cre, acc, L⟩ := e
  simp only at hE hn ⊢
  have HV := Lib.hid (show overB ((o1, o2), o3) L = (decide (L.length ≤ 64) && ovG ((o1, o2), o3) none L) from rfl)
  generalize hlen : L.length = n at *
  have HLn := Lib.hid hlen
  have HE := Lib.hid hE
  clear hlen h hE
  by_cases h64 : n ≤ 64
  · have t1 : decide ((64 : Int) < (n : Int)) = false := decide_eq_false (by omega)
    have t1n : decide (64 < n) = false := decide_eq_false (by omega)
    have HV2 := Lib.hid (show overB ((o1, o2), o3) L = ovG ((o1, o2), o3) none L by rw [HV.out, decide_eq_true h64]; rfl)
    go_enter Tryz.func86, Tryz.ntmps86
    go_wp2
    go_loopw [12] (fun i wr => ∃ j : Nat, j ≤ n ∧ i = .int .i64 j ∧ (∀ k x, k < j → L[k]? = some x → okP ((o1, o2), o3) (prevAt none L k) x = true) ∧ EV w.heap.size w w.heap.size ⟨((o1, o2), o3), st, kind, name, dom, path, value, ho, se, ht, pe, exp, cre, acc, L⟩ A c wr) (fun i _ => n - (intOf i).toNat)
    case atStart => exact ⟨0, by omega, rfl, fun k x hk => absurd hk (by omega), HE.out⟩
    case round =>
      obtain ⟨j, hj, rfl, hk, hEV⟩ := hrel
      have HK := Lib.hid (And.intro hk hEV)
      clear hk hEV HE
      by_cases hlt : j < n
      · obtain ⟨x, hx⟩ : ∃ x, L[j]? = some x := ⟨L[j]'(by have := HLn.out; omega), List.getElem?_eq_getElem _⟩
        obtain ⟨b0, o0, hA, hbN, k0, k1, k2⟩ := Ds.at_ HK.out.2.2.1 hx
        subst hA
        obtain ⟨⟨x1, x2⟩, x3⟩ := x
        simp only at k0 k1 k2
        have HXj := Lib.hid hx
        clear hx
        have CR := Lib.hid (fun w => right_any x1 x2 x3 w)
        unfold dotV at CR
        go_upto_region 6 with fail
        have HEV1 := Lib.hid (HK.out.2.alloc (.cells #[.int .i64 x1, .int .i64 x2, .int .i64 x3] 50))
        have hD := Whole.new wr 50 #[.int .i64 x1, .int .i64 x2, .int .i64 x3]
        generalize hW1 : wr.alloc (.cells #[.int .i64 x1, .int .i64 x2, .int .i64 x3] 50) = W1 at *
        have hDl : wr.heap.size < W1.heap.size := hD.lt
        generalize wr.heap.size = D at *
        have hEl : w.heap.size < W1.heap.size := HEV1.out.1.lt
        have hbl : b0 < W1.heap.size := Nat.lt_of_lt_of_le hbN HEV1.out.2.2.2
        have hN0 : W1.heap.size ≤ W1.drew.heap.size := Nat.le_refl _
        have hS : W1.cell? ⟨D, 0, none⟩ = some (.int .i64 x1) ∧ W1.cell? ⟨D, 1, none⟩ = some (.int .i64 x2) ∧ W1.cell? ⟨D, 2, none⟩ = some (.int .i64 x3) ∧ W1.cell? ⟨w.heap.size, 0, none⟩ = some (.int .i64 o1) ∧ W1.cell? ⟨w.heap.size, 1, none⟩ = some (.int .i64 o2) ∧ W1.cell? ⟨w.heap.size, 2, none⟩ = some (.int .i64 o3) ∧ W1.cell? ⟨w.heap.size, 18, none⟩ = some (.slice (some ⟨b0, o0, none⟩) n c) := by
          refine ⟨?_, ?_, ?_, ?_, ?_, ?_, ?_⟩
          all_goals first | (rw [hD.cell]; rfl) | (rw [HEV1.out.1.cell]; rfl) | (rw [HEV1.out.1.cell]; show some (Value.slice _ L.length _) = _; rw [HLn.out])
        have HS := Lib.hid hS
        clear hS hW1 hD k0 k1 k2
        by_cases hj0 : j = 0
        · subst hj0
          have HPV := Lib.hid (show prevAt none L 0 = none from rfl)
          cases hr : dotB x1 x2 x3 with
          | false =>
            rw [hr] at CR
            have hr' : rightD ((x1, x2), x3) = false := hr
            clear hr
            have HX := Lib.hid (show okP ((o1, o2), o3) (prevAt none L 0) ((x1, x2), x3) = false from by unfold okP; rw [hr']; rfl)
            clear hr'
            refine wp_region_held_drew (S := (fun W => W.cell? ⟨D, 0, none⟩ = some (.int .i64 x1) ∧ W.cell? ⟨D, 1, none⟩ = some (.int .i64 x2) ∧ W.cell? ⟨D, 2, none⟩ = some (.int .i64 x3) ∧ W.cell? ⟨w.heap.size, 0, none⟩ = some (.int .i64 o1) ∧ W.cell? ⟨w.heap.size, 1, none⟩ = some (.int .i64 o2) ∧ W.cell? ⟨w.heap.size, 2, none⟩ = some (.int .i64 o3) ∧ W.cell? ⟨w.heap.size, 18, none⟩ = some (.slice (some ⟨b0, o0, none⟩) n c))) (by kernel_rfl) ?_ (fun hHeld => ?_)
            · (try dsimp only); exact HS.out
            refine wpAnyH_take (i := 0) (v := ?_) rfl (by kernel_rfl) (by kernel_rfl) (by kernel_rfl) (fun _ _ _ h => h) (Or.inl ⟨by rfl, ?_⟩) (by assumption) ?_
            rotate_left
            first | (focus ((intro w hSw; (try dsimp only at hSw); go_simp); (try with_reducible rfl); done)) | fail
            try simp only [Act.put, List.getElem_toArray, List.getElem_cons_zero, List.setIfInBounds_toArray, List.set_cons_zero, List.set_cons_succ]
            refine wpAnyH_ready (rs := [1]) (by kernel_rfl) (by simp) ?_
            refine AllReadyH.cons rfl (fun K hK => ?_) AllReadyH.nil
            go_simp
            refine (CR.out _).mono ?_; rintro r w5 ⟨rfl, b5⟩
            go_wp2_with fail
            refine hK.out _ _ ?_ (fun hHeld => ?_)
            · (try dsimp only); exact ⟨((below_of_le b5 hN0).cell hDl).trans hHeld.1, ((below_of_le b5 hN0).cell hDl).trans hHeld.2.1, ((below_of_le b5 hN0).cell hDl).trans hHeld.2.2.1, ((below_of_le b5 hN0).cell hEl).trans hHeld.2.2.2.1, ((below_of_le b5 hN0).cell hEl).trans hHeld.2.2.2.2.1, ((below_of_le b5 hN0).cell hEl).trans hHeld.2.2.2.2.2.1, ((below_of_le b5 hN0).cell hEl).trans hHeld.2.2.2.2.2.2⟩
            clear hK K
            try simp only [Act.put, List.getElem_toArray, List.getElem_cons_zero, List.getElem_cons_succ, List.setIfInBounds_toArray, List.set_cons_zero, List.set_cons_succ]
            have B5 := Lib.hid (below_of_le b5 hN0)
            clear b5
            refine wpAnyH_take (i := 2) (v := ?_) rfl (by kernel_rfl) (by kernel_rfl) (by kernel_rfl) (fun _ _ _ h => h) (Or.inl ⟨by rfl, ?_⟩) (by assumption) ?_
            rotate_left
            first | (focus ((intro w hSw; (try dsimp only at hSw); go_simp); (try with_reducible rfl); done)) | fail
            try simp only [Act.put, List.getElem_toArray, List.getElem_cons_zero, List.getElem_cons_succ, List.setIfInBounds_toArray, List.set_cons_zero, List.set_cons_succ]
            refine wpAnyH_take (i := 3) (v := ?_) rfl (by kernel_rfl) (by kernel_rfl) (by kernel_rfl) (fun _ _ _ h => h) (Or.inl ⟨by rfl, ?_⟩) (by assumption) ?_
            rotate_left
            first | (focus ((intro w hSw; (try dsimp only at hSw); go_simp); (try with_reducible rfl); done)) | fail
            try simp only [Act.put, List.getElem_toArray, List.getElem_cons_zero, List.getElem_cons_succ, List.setIfInBounds_toArray, List.set_cons_zero, List.set_cons_succ]
            refine wpAnyH_take (i := 4) (v := undef) rfl (by kernel_rfl) (by kernel_rfl) (by kernel_rfl) (fun _ _ _ h => h) (Or.inr ⟨by rfl, rfl⟩) (by assumption) ?_
            try simp only [Act.put, List.getElem_toArray, List.getElem_cons_zero, List.getElem_cons_succ, List.setIfInBounds_toArray, List.set_cons_zero, List.set_cons_succ]
            refine wpAnyH_take (i := 5) (v := undef) rfl (by kernel_rfl) (by kernel_rfl) (by kernel_rfl) (fun _ _ _ h => h) (Or.inr ⟨by rfl, rfl⟩) (by assumption) ?_
            try simp only [Act.put, List.getElem_toArray, List.getElem_cons_zero, List.getElem_cons_succ, List.setIfInBounds_toArray, List.set_cons_zero, List.set_cons_succ]
            refine wpAnyH_take (i := 6) (v := undef) rfl (by kernel_rfl) (by kernel_rfl) (by kernel_rfl) (fun _ _ _ h => h) (Or.inr ⟨by rfl, rfl⟩) (by assumption) ?_
            try simp only [Act.put, List.getElem_toArray, List.getElem_cons_zero, List.getElem_cons_succ, List.setIfInBounds_toArray, List.set_cons_zero, List.set_cons_succ]
            refine wpAnyH_take (i := 7) (v := undef) rfl (by kernel_rfl) (by kernel_rfl) (by kernel_rfl) (fun _ _ _ h => h) (Or.inr ⟨by rfl, rfl⟩) (by assumption) ?_
            try simp only [Act.put, List.getElem_toArray, List.getElem_cons_zero, List.getElem_cons_succ, List.setIfInBounds_toArray, List.set_cons_zero, List.set_cons_succ]
            refine wpAnyH_take (i := 8) (v := undef) rfl (by kernel_rfl) (by kernel_rfl) (by kernel_rfl) (fun _ _ _ h => h) (Or.inr ⟨by rfl, rfl⟩) (by assumption) ?_
            try simp only [Act.put, List.getElem_toArray, List.getElem_cons_zero, List.getElem_cons_succ, List.setIfInBounds_toArray, List.set_cons_zero, List.set_cons_succ]
            refine wpAnyH_take (i := 9) (v := undef) rfl (by kernel_rfl) (by kernel_rfl) (by kernel_rfl) (fun _ _ _ h => h) (Or.inr ⟨by rfl, rfl⟩) (by assumption) ?_
            try simp only [Act.put, List.getElem_toArray, List.getElem_cons_zero, List.getElem_cons_succ, List.setIfInBounds_toArray, List.set_cons_zero, List.set_cons_succ]
            refine wpAnyH_take (i := 10) (v := undef) rfl (by kernel_rfl) (by kernel_rfl) (by kernel_rfl) (fun _ _ _ h => h) (Or.inr ⟨by rfl, rfl⟩) (by assumption) ?_
            try simp only [Act.put, List.getElem_toArray, List.getElem_cons_zero, List.getElem_cons_succ, List.setIfInBounds_toArray, List.set_cons_zero, List.set_cons_succ]
            refine wpAnyH_take (i := 11) (v := undef) rfl (by kernel_rfl) (by kernel_rfl) (by kernel_rfl) (fun _ _ _ h => h) (Or.inr ⟨by rfl, rfl⟩) (by assumption) ?_
            try simp only [Act.put, List.getElem_toArray, List.getElem_cons_zero, List.getElem_cons_succ, List.setIfInBounds_toArray, List.set_cons_zero, List.set_cons_succ]
            refine wpAnyH_take (i := 12) (v := undef) rfl (by kernel_rfl) (by kernel_rfl) (by kernel_rfl) (fun _ _ _ h => h) (Or.inr ⟨by rfl, rfl⟩) (by assumption) ?_
            try simp only [Act.put, List.getElem_toArray, List.getElem_cons_zero, List.getElem_cons_succ, List.setIfInBounds_toArray, List.set_cons_zero, List.set_cons_succ]
            refine wpAnyH_take (i := 13) (v := undef) rfl (by kernel_rfl) (by kernel_rfl) (by kernel_rfl) (fun _ _ _ h => h) (Or.inr ⟨by rfl, rfl⟩) (by assumption) ?_
            try simp only [Act.put, List.getElem_toArray, List.getElem_cons_zero, List.getElem_cons_succ, List.setIfInBounds_toArray, List.set_cons_zero, List.set_cons_succ]
            refine wpAnyH_take (i := 14) (v := undef) rfl (by kernel_rfl) (by kernel_rfl) (by kernel_rfl) (fun _ _ _ h => h) (Or.inr ⟨by rfl, rfl⟩) (by assumption) ?_
            try simp only [Act.put, List.getElem_toArray, List.getElem_cons_zero, List.getElem_cons_succ, List.setIfInBounds_toArray, List.set_cons_zero, List.set_cons_succ]
            refine wpAnyH_take (i := 15) (v := undef) rfl (by kernel_rfl) (by kernel_rfl) (by kernel_rfl) (fun _ _ _ h => h) (Or.inr ⟨by rfl, rfl⟩) (by assumption) ?_
            try simp only [Act.put, List.getElem_toArray, List.getElem_cons_zero, List.getElem_cons_succ, List.setIfInBounds_toArray, List.set_cons_zero, List.set_cons_succ]
            refine wpAnyH_take (i := 16) (v := undef) rfl (by kernel_rfl) (by kernel_rfl) (by kernel_rfl) (fun _ _ _ h => h) (Or.inr ⟨by rfl, rfl⟩) (by assumption) ?_
            try simp only [Act.put, List.getElem_toArray, List.getElem_cons_zero, List.getElem_cons_succ, List.setIfInBounds_toArray, List.set_cons_zero, List.set_cons_succ]
            refine wpAnyH_take (i := 17) (v := ?_) rfl (by kernel_rfl) (by kernel_rfl) (by kernel_rfl) (fun _ _ _ h => h) (Or.inl ⟨by rfl, ?_⟩) (by assumption) ?_
            rotate_left
            first | (focus ((intro w hSw; (try dsimp only at hSw); go_simp); (try with_reducible rfl); done)) | fail
            try simp only [Act.put, List.getElem_toArray, List.getElem_cons_zero, List.getElem_cons_succ, List.setIfInBounds_toArray, List.set_cons_zero, List.set_cons_succ]
            refine wpAnyH_take (i := 18) (v := ?_) rfl (by kernel_rfl) (by kernel_rfl) (by kernel_rfl) (fun _ _ _ h => h) (Or.inl ⟨by rfl, ?_⟩) (by assumption) ?_
            rotate_left
            first | (focus ((intro w hSw; (try dsimp only at hSw); go_simp); (try with_reducible rfl); done)) | fail
            try simp only [Act.put, List.getElem_toArray, List.getElem_cons_zero, List.getElem_cons_succ, List.setIfInBounds_toArray, List.set_cons_zero, List.set_cons_succ]
            refine wpAnyH_take (i := 19) (v := undef) rfl (by kernel_rfl) (by kernel_rfl) (by kernel_rfl) (fun _ _ _ h => h) (Or.inr ⟨by rfl, rfl⟩) (by assumption) ?_
            try simp only [Act.put, List.getElem_toArray, List.getElem_cons_zero, List.getElem_cons_succ, List.setIfInBounds_toArray, List.set_cons_zero, List.set_cons_succ]
            refine wpAnyH_take (i := 20) (v := undef) rfl (by kernel_rfl) (by kernel_rfl) (by kernel_rfl) (fun _ _ _ h => h) (Or.inr ⟨by rfl, rfl⟩) (by assumption) ?_
            try simp only [Act.put, List.getElem_toArray, List.getElem_cons_zero, List.getElem_cons_succ, List.setIfInBounds_toArray, List.set_cons_zero, List.set_cons_succ]
            refine wpAnyH_take (i := 21) (v := undef) rfl (by kernel_rfl) (by kernel_rfl) (by kernel_rfl) (fun _ _ _ h => h) (Or.inr ⟨by rfl, rfl⟩) (by assumption) ?_
            try simp only [Act.put, List.getElem_toArray, List.getElem_cons_zero, List.getElem_cons_succ, List.setIfInBounds_toArray, List.set_cons_zero, List.set_cons_succ]
            refine wpAnyH_take (i := 22) (v := undef) rfl (by kernel_rfl) (by kernel_rfl) (by kernel_rfl) (fun _ _ _ h => h) (Or.inr ⟨by rfl, rfl⟩) (by assumption) ?_
            try simp only [Act.put, List.getElem_toArray, List.getElem_cons_zero, List.getElem_cons_succ, List.setIfInBounds_toArray, List.set_cons_zero, List.set_cons_succ]
            refine wpAnyH_take (i := 23) (v := undef) rfl (by kernel_rfl) (by kernel_rfl) (by kernel_rfl) (fun _ _ _ h => h) (Or.inr ⟨by rfl, rfl⟩) (by assumption) ?_
            try simp only [Act.put, List.getElem_toArray, List.getElem_cons_zero, List.getElem_cons_succ, List.setIfInBounds_toArray, List.set_cons_zero, List.set_cons_succ]
            refine wpAnyH_take (i := 24) (v := undef) rfl (by kernel_rfl) (by kernel_rfl) (by kernel_rfl) (fun _ _ _ h => h) (Or.inr ⟨by rfl, rfl⟩) (by assumption) ?_
            try simp only [Act.put, List.getElem_toArray, List.getElem_cons_zero, List.getElem_cons_succ, List.setIfInBounds_toArray, List.set_cons_zero, List.set_cons_succ]
            refine wpAnyH_take (i := 25) (v := undef) rfl (by kernel_rfl) (by kernel_rfl) (by kernel_rfl) (fun _ _ _ h => h) (Or.inr ⟨by rfl, rfl⟩) (by assumption) ?_
            try simp only [Act.put, List.getElem_toArray, List.getElem_cons_zero, List.getElem_cons_succ, List.setIfInBounds_toArray, List.set_cons_zero, List.set_cons_succ]
            refine wpAnyH_take (i := 26) (v := undef) rfl (by kernel_rfl) (by kernel_rfl) (by kernel_rfl) (fun _ _ _ h => h) (Or.inr ⟨by rfl, rfl⟩) (by assumption) ?_
            try simp only [Act.put, List.getElem_toArray, List.getElem_cons_zero, List.getElem_cons_succ, List.setIfInBounds_toArray, List.set_cons_zero, List.set_cons_succ]
            refine wpAnyH_take (i := 27) (v := undef) rfl (by kernel_rfl) (by kernel_rfl) (by kernel_rfl) (fun _ _ _ h => h) (Or.inr ⟨by rfl, rfl⟩) (by assumption) ?_
            try simp only [Act.put, List.getElem_toArray, List.getElem_cons_zero, List.getElem_cons_succ, List.setIfInBounds_toArray, List.set_cons_zero, List.set_cons_succ]
            refine wpAnyH_take (i := 28) (v := undef) rfl (by kernel_rfl) (by kernel_rfl) (by kernel_rfl) (fun _ _ _ h => h) (Or.inr ⟨by rfl, rfl⟩) (by assumption) ?_
            try simp only [Act.put, List.getElem_toArray, List.getElem_cons_zero, List.getElem_cons_succ, List.setIfInBounds_toArray, List.set_cons_zero, List.set_cons_succ]
            refine wpAnyH_take (i := 29) (v := undef) rfl (by kernel_rfl) (by kernel_rfl) (by kernel_rfl) (fun _ _ _ h => h) (Or.inr ⟨by rfl, rfl⟩) (by assumption) ?_
            try simp only [Act.put, List.getElem_toArray, List.getElem_cons_zero, List.getElem_cons_succ, List.setIfInBounds_toArray, List.set_cons_zero, List.set_cons_succ]
            refine wpAnyH_take (i := 30) (v := undef) rfl (by kernel_rfl) (by kernel_rfl) (by kernel_rfl) (fun _ _ _ h => h) (Or.inr ⟨by rfl, rfl⟩) (by assumption) ?_
            try simp only [Act.put, List.getElem_toArray, List.getElem_cons_zero, List.getElem_cons_succ, List.setIfInBounds_toArray, List.set_cons_zero, List.set_cons_succ]
            refine wpAnyH_take (i := 31) (v := undef) rfl (by kernel_rfl) (by kernel_rfl) (by kernel_rfl) (fun _ _ _ h => h) (Or.inr ⟨by rfl, rfl⟩) (by assumption) ?_
            try simp only [Act.put, List.getElem_toArray, List.getElem_cons_zero, List.getElem_cons_succ, List.setIfInBounds_toArray, List.set_cons_zero, List.set_cons_succ]
            refine wpAnyH_take (i := 32) (v := undef) rfl (by kernel_rfl) (by kernel_rfl) (by kernel_rfl) (fun _ _ _ h => h) (Or.inr ⟨by rfl, rfl⟩) (by assumption) ?_
            try simp only [Act.put, List.getElem_toArray, List.getElem_cons_zero, List.getElem_cons_succ, List.setIfInBounds_toArray, List.set_cons_zero, List.set_cons_succ]
            refine wpAnyH_take (i := 33) (v := ?_) rfl (by kernel_rfl) (by kernel_rfl) (by kernel_rfl) (fun _ _ _ h => h) (Or.inl ⟨by rfl, ?_⟩) (by assumption) ?_
            rotate_left
            first | (focus ((intro w hSw; (try dsimp only at hSw); go_simp); (try with_reducible rfl); done)) | fail
            try simp only [Act.put, List.getElem_toArray, List.getElem_cons_zero, List.getElem_cons_succ, List.setIfInBounds_toArray, List.set_cons_zero, List.set_cons_succ]
            refine wpAnyH_done (by kernel_rfl) ?_ _
            go_wp2
            go_ret
            exact ⟨by rw [HV2.out, ovG_no HXj.out HX.out]; rfl, HEV1.out.2.2.1.drew.trans (below_of_le B5.out HEV1.out.2.2.2)⟩
          | true =>
            rw [hr] at CR
            have hr' : rightD ((x1, x2), x3) = true := hr
            clear hr
            by_cases hq : x1 = o1 ∧ x2 = o2
            · have hEq : ∀ w : World, (binOp .eql 48 (.agg #[.int .i64 x1, .int .i64 x2]) (.agg #[.int .i64 o1, .int .i64 o2])).run Tryz.prog w = .ok (.bool true) w := fun w => by have h := eql_act x1 x2 o1 o2 w; unfold actV at h; rw [decide_eq_true hq] at h; exact h
              have hq1 : decide (((x1, x2) : Ac) = (o1, o2)) = true := decide_eq_true (Prod.ext hq.1 hq.2)
              clear hq
              by_cases hs : o3 ≤ x3
              · have hs1 : decide (o3 ≤ x3) = true := decide_eq_true hs
                have HX := Lib.hid (show okP ((o1, o2), o3) (prevAt none L 0) ((x1, x2), x3) = false from by rw [HPV.out]; unfold okP; rw [hr', hq1, hs1]; rfl)
                clear hq1 hr'
                refine wp_region_held_drew (S := (fun W => W.cell? ⟨D, 0, none⟩ = some (.int .i64 x1) ∧ W.cell? ⟨D, 1, none⟩ = some (.int .i64 x2) ∧ W.cell? ⟨D, 2, none⟩ = some (.int .i64 x3) ∧ W.cell? ⟨w.heap.size, 0, none⟩ = some (.int .i64 o1) ∧ W.cell? ⟨w.heap.size, 1, none⟩ = some (.int .i64 o2) ∧ W.cell? ⟨w.heap.size, 2, none⟩ = some (.int .i64 o3) ∧ W.cell? ⟨w.heap.size, 18, none⟩ = some (.slice (some ⟨b0, o0, none⟩) n c))) (by kernel_rfl) ?_ (fun hHeld => ?_)
                · (try dsimp only); exact HS.out
                refine wpAnyH_take (i := 0) (v := ?_) rfl (by kernel_rfl) (by kernel_rfl) (by kernel_rfl) (fun _ _ _ h => h) (Or.inl ⟨by rfl, ?_⟩) (by assumption) ?_
                rotate_left
                first | (focus ((intro w hSw; (try dsimp only at hSw); go_simp); (try with_reducible rfl); done)) | fail
                try simp only [Act.put, List.getElem_toArray, List.getElem_cons_zero, List.setIfInBounds_toArray, List.set_cons_zero, List.set_cons_succ]
                refine wpAnyH_ready (rs := [1]) (by kernel_rfl) (by simp) ?_
                refine AllReadyH.cons rfl (fun K hK => ?_) AllReadyH.nil
                go_simp
                refine (CR.out _).mono ?_; rintro r w5 ⟨rfl, b5⟩
                go_wp2_with fail
                refine hK.out _ _ ?_ (fun hHeld => ?_)
                · (try dsimp only); exact ⟨((below_of_le b5 hN0).cell hDl).trans hHeld.1, ((below_of_le b5 hN0).cell hDl).trans hHeld.2.1, ((below_of_le b5 hN0).cell hDl).trans hHeld.2.2.1, ((below_of_le b5 hN0).cell hEl).trans hHeld.2.2.2.1, ((below_of_le b5 hN0).cell hEl).trans hHeld.2.2.2.2.1, ((below_of_le b5 hN0).cell hEl).trans hHeld.2.2.2.2.2.1, ((below_of_le b5 hN0).cell hEl).trans hHeld.2.2.2.2.2.2⟩
                clear hK K
                try simp only [Act.put, List.getElem_toArray, List.getElem_cons_zero, List.getElem_cons_succ, List.setIfInBounds_toArray, List.set_cons_zero, List.set_cons_succ]
                have B5 := Lib.hid (below_of_le b5 hN0)
                clear b5
                refine wpAnyH_take (i := 2) (v := ?_) rfl (by kernel_rfl) (by kernel_rfl) (by kernel_rfl) (fun _ _ _ h => h) (Or.inl ⟨by rfl, ?_⟩) (by assumption) ?_
                rotate_left
                first | (focus ((intro w hSw; (try dsimp only at hSw); go_simp); (try with_reducible rfl); done)) | fail
                try simp only [Act.put, List.getElem_toArray, List.getElem_cons_zero, List.getElem_cons_succ, List.setIfInBounds_toArray, List.set_cons_zero, List.set_cons_succ]
                refine wpAnyH_take (i := 3) (v := ?_) rfl (by kernel_rfl) (by kernel_rfl) (by kernel_rfl) (fun _ _ _ h => h) (Or.inl ⟨by rfl, ?_⟩) (by assumption) ?_
                rotate_left
                first | (focus ((intro w hSw; (try dsimp only at hSw); go_simp); (try with_reducible rfl); done)) | fail
                try simp only [Act.put, List.getElem_toArray, List.getElem_cons_zero, List.getElem_cons_succ, List.setIfInBounds_toArray, List.set_cons_zero, List.set_cons_succ]
                refine wpAnyH_take (i := 4) (v := ?_) rfl (by kernel_rfl) (by kernel_rfl) (by kernel_rfl) (fun _ _ _ h => h) (Or.inl ⟨by rfl, ?_⟩) (by assumption) ?_
                rotate_left
                first | (focus ((intro w hSw; (try dsimp only at hSw); go_simp); (try with_reducible rfl); done)) | fail
                try simp only [Act.put, List.getElem_toArray, List.getElem_cons_zero, List.getElem_cons_succ, List.setIfInBounds_toArray, List.set_cons_zero, List.set_cons_succ]
                refine wpAnyH_take (i := 5) (v := ?_) rfl (by kernel_rfl) (by kernel_rfl) (by kernel_rfl) (fun _ _ _ h => h) (Or.inl ⟨by rfl, ?_⟩) (by assumption) ?_
                rotate_left
                first | (focus ((intro w hSw; (try dsimp only at hSw); go_simp); (try with_reducible rfl); done)) | fail
                try simp only [Act.put, List.getElem_toArray, List.getElem_cons_zero, List.getElem_cons_succ, List.setIfInBounds_toArray, List.set_cons_zero, List.set_cons_succ]
                refine wpAnyH_take (i := 6) (v := ?_) rfl (by kernel_rfl) (by kernel_rfl) (by kernel_rfl) (fun _ _ _ h => h) (Or.inl ⟨by rfl, ?_⟩) (by assumption) ?_
                rotate_left
                first | (focus ((intro w hSw; (try dsimp only at hSw); go_simp); (try with_reducible rfl); done)) | fail
                try simp only [Act.put, List.getElem_toArray, List.getElem_cons_zero, List.getElem_cons_succ, List.setIfInBounds_toArray, List.set_cons_zero, List.set_cons_succ]
                refine wpAnyH_take (i := 7) (v := undef) rfl (by kernel_rfl) (by kernel_rfl) (by kernel_rfl) (fun _ _ _ h => h) (Or.inr ⟨by rfl, rfl⟩) (by assumption) ?_
                try simp only [Act.put, List.getElem_toArray, List.getElem_cons_zero, List.getElem_cons_succ, List.setIfInBounds_toArray, List.set_cons_zero, List.set_cons_succ]
                refine wpAnyH_take (i := 8) (v := undef) rfl (by kernel_rfl) (by kernel_rfl) (by kernel_rfl) (fun _ _ _ h => h) (Or.inr ⟨by rfl, rfl⟩) (by assumption) ?_
                try simp only [Act.put, List.getElem_toArray, List.getElem_cons_zero, List.getElem_cons_succ, List.setIfInBounds_toArray, List.set_cons_zero, List.set_cons_succ]
                refine wpAnyH_take (i := 9) (v := undef) rfl (by kernel_rfl) (by kernel_rfl) (by kernel_rfl) (fun _ _ _ h => h) (Or.inr ⟨by rfl, rfl⟩) (by assumption) ?_
                try simp only [Act.put, List.getElem_toArray, List.getElem_cons_zero, List.getElem_cons_succ, List.setIfInBounds_toArray, List.set_cons_zero, List.set_cons_succ]
                refine wpAnyH_take (i := 10) (v := undef) rfl (by kernel_rfl) (by kernel_rfl) (by kernel_rfl) (fun _ _ _ h => h) (Or.inr ⟨by rfl, rfl⟩) (by assumption) ?_
                try simp only [Act.put, List.getElem_toArray, List.getElem_cons_zero, List.getElem_cons_succ, List.setIfInBounds_toArray, List.set_cons_zero, List.set_cons_succ]
                refine wpAnyH_take (i := 11) (v := undef) rfl (by kernel_rfl) (by kernel_rfl) (by kernel_rfl) (fun _ _ _ h => h) (Or.inr ⟨by rfl, rfl⟩) (by assumption) ?_
                try simp only [Act.put, List.getElem_toArray, List.getElem_cons_zero, List.getElem_cons_succ, List.setIfInBounds_toArray, List.set_cons_zero, List.set_cons_succ]
                refine wpAnyH_take (i := 12) (v := undef) rfl (by kernel_rfl) (by kernel_rfl) (by kernel_rfl) (fun _ _ _ h => h) (Or.inr ⟨by rfl, rfl⟩) (by assumption) ?_
                try simp only [Act.put, List.getElem_toArray, List.getElem_cons_zero, List.getElem_cons_succ, List.setIfInBounds_toArray, List.set_cons_zero, List.set_cons_succ]
                refine wpAnyH_take (i := 13) (v := undef) rfl (by kernel_rfl) (by kernel_rfl) (by kernel_rfl) (fun _ _ _ h => h) (Or.inr ⟨by rfl, rfl⟩) (by assumption) ?_
                try simp only [Act.put, List.getElem_toArray, List.getElem_cons_zero, List.getElem_cons_succ, List.setIfInBounds_toArray, List.set_cons_zero, List.set_cons_succ]
                refine wpAnyH_take (i := 14) (v := undef) rfl (by kernel_rfl) (by kernel_rfl) (by kernel_rfl) (fun _ _ _ h => h) (Or.inr ⟨by rfl, rfl⟩) (by assumption) ?_
                try simp only [Act.put, List.getElem_toArray, List.getElem_cons_zero, List.getElem_cons_succ, List.setIfInBounds_toArray, List.set_cons_zero, List.set_cons_succ]
                refine wpAnyH_take (i := 15) (v := undef) rfl (by kernel_rfl) (by kernel_rfl) (by kernel_rfl) (fun _ _ _ h => h) (Or.inr ⟨by rfl, rfl⟩) (by assumption) ?_
                try simp only [Act.put, List.getElem_toArray, List.getElem_cons_zero, List.getElem_cons_succ, List.setIfInBounds_toArray, List.set_cons_zero, List.set_cons_succ]
                refine wpAnyH_take (i := 16) (v := ?_) rfl (by kernel_rfl) (by kernel_rfl) (by kernel_rfl) (fun _ _ _ h => h) (Or.inl ⟨by rfl, ?_⟩) (by assumption) ?_
                rotate_left
                first | (focus ((intro w hSw; (try dsimp only at hSw); go_simp); (try with_reducible rfl); done)) | fail
                try simp only [Act.put, List.getElem_toArray, List.getElem_cons_zero, List.getElem_cons_succ, List.setIfInBounds_toArray, List.set_cons_zero, List.set_cons_succ]
                refine wpAnyH_take (i := 17) (v := ?_) rfl (by kernel_rfl) (by kernel_rfl) (by kernel_rfl) (fun _ _ _ h => h) (Or.inl ⟨by rfl, ?_⟩) (by assumption) ?_
                rotate_left
                first | (focus ((intro w hSw; (try dsimp only at hSw); go_simp); (try with_reducible rfl); done)) | fail
                try simp only [Act.put, List.getElem_toArray, List.getElem_cons_zero, List.getElem_cons_succ, List.setIfInBounds_toArray, List.set_cons_zero, List.set_cons_succ]
                refine wpAnyH_take (i := 18) (v := ?_) rfl (by kernel_rfl) (by kernel_rfl) (by kernel_rfl) (fun _ _ _ h => h) (Or.inl ⟨by rfl, ?_⟩) (by assumption) ?_
                rotate_left
                first | (focus ((intro w hSw; (try dsimp only at hSw); go_simp); (try with_reducible rfl); done)) | fail
                try simp only [Act.put, List.getElem_toArray, List.getElem_cons_zero, List.getElem_cons_succ, List.setIfInBounds_toArray, List.set_cons_zero, List.set_cons_succ]
                refine wpAnyH_take (i := 19) (v := ?_) rfl (by kernel_rfl) (by kernel_rfl) (by kernel_rfl) (fun _ _ _ h => h) (Or.inl ⟨by rfl, ?_⟩) (by assumption) ?_
                rotate_left
                first | (focus ((intro w hSw; (try dsimp only at hSw); go_simp); (try with_reducible rfl); done)) | fail
                try simp only [Act.put, List.getElem_toArray, List.getElem_cons_zero, List.getElem_cons_succ, List.setIfInBounds_toArray, List.set_cons_zero, List.set_cons_succ]
                refine wpAnyH_take (i := 20) (v := ?_) rfl (by kernel_rfl) (by kernel_rfl) (by kernel_rfl) (fun _ _ _ h => h) (Or.inl ⟨by rfl, ?_⟩) (by assumption) ?_
                rotate_left
                first | (focus ((intro w hSw; (try dsimp only at hSw); go_simp); (try with_reducible rfl); done)) | fail
                try simp only [Act.put, List.getElem_toArray, List.getElem_cons_zero, List.getElem_cons_succ, List.setIfInBounds_toArray, List.set_cons_zero, List.set_cons_succ]
                refine wpAnyH_take (i := 21) (v := ?_) rfl (by kernel_rfl) (by kernel_rfl) (by kernel_rfl) (fun _ _ _ h => h) (Or.inl ⟨by rfl, ?_⟩) (by assumption) ?_
                rotate_left
                first | (focus ((intro w hSw; (try dsimp only at hSw); go_simp); (try with_reducible rfl); done)) | fail
                try simp only [Act.put, List.getElem_toArray, List.getElem_cons_zero, List.getElem_cons_succ, List.setIfInBounds_toArray, List.set_cons_zero, List.set_cons_succ]
                refine wpAnyH_take (i := 22) (v := ?_) rfl (by kernel_rfl) (by kernel_rfl) (by kernel_rfl) (fun _ _ _ h => h) (Or.inl ⟨by rfl, ?_⟩) (by assumption) ?_
                rotate_left
                first | (focus ((intro w hSw; (try dsimp only at hSw); go_simp); (try with_reducible rfl); done)) | fail
                try simp only [Act.put, List.getElem_toArray, List.getElem_cons_zero, List.getElem_cons_succ, List.setIfInBounds_toArray, List.set_cons_zero, List.set_cons_succ]
                refine wpAnyH_take (i := 23) (v := ?_) rfl (by kernel_rfl) (by kernel_rfl) (by kernel_rfl) (fun _ _ _ h => h) (Or.inl ⟨by rfl, ?_⟩) (by assumption) ?_
                rotate_left
                first | (focus ((intro w hSw; (try dsimp only at hSw); go_simp); (try with_reducible rfl); done)) | fail
                try simp only [Act.put, List.getElem_toArray, List.getElem_cons_zero, List.getElem_cons_succ, List.setIfInBounds_toArray, List.set_cons_zero, List.set_cons_succ]
                refine wpAnyH_take (i := 24) (v := ?_) rfl (by kernel_rfl) (by kernel_rfl) (by kernel_rfl) (fun _ _ _ h => h) (Or.inl ⟨by rfl, ?_⟩) (by assumption) ?_
                rotate_left
                first | (focus ((intro w hSw; (try dsimp only at hSw); go_simp); (try with_reducible rfl); done)) | fail
                try simp only [Act.put, List.getElem_toArray, List.getElem_cons_zero, List.getElem_cons_succ, List.setIfInBounds_toArray, List.set_cons_zero, List.set_cons_succ]
                refine wpAnyH_take (i := 25) (v := ?_) rfl (by kernel_rfl) (by kernel_rfl) (by kernel_rfl) (fun _ _ _ h => h) (Or.inl ⟨by rfl, ?_⟩) (by assumption) ?_
                rotate_left
                first | (focus ((intro w hSw; (try dsimp only at hSw); go_simp); (try with_reducible rfl); done)) | fail
                try simp only [Act.put, List.getElem_toArray, List.getElem_cons_zero, List.getElem_cons_succ, List.setIfInBounds_toArray, List.set_cons_zero, List.set_cons_succ]
                refine wpAnyH_take (i := 26) (v := ?_) rfl (by kernel_rfl) (by kernel_rfl) (by kernel_rfl) (fun _ _ _ h => h) (Or.inl ⟨by rfl, ?_⟩) (by assumption) ?_
                rotate_left
                first | (focus ((intro w hSw; (try dsimp only at hSw); go_simp); (try with_reducible rfl); done)) | fail
                try simp only [Act.put, List.getElem_toArray, List.getElem_cons_zero, List.getElem_cons_succ, List.setIfInBounds_toArray, List.set_cons_zero, List.set_cons_succ]
                refine wpAnyH_take (i := 27) (v := ?_) rfl (by kernel_rfl) (by kernel_rfl) (by kernel_rfl) (fun _ _ _ h => h) (Or.inl ⟨by rfl, ?_⟩) (by assumption) ?_
                rotate_left
                first | (focus ((intro w hSw; (try dsimp only at hSw); go_simp); (try with_reducible rfl); done)) | fail
                try simp only [Act.put, List.getElem_toArray, List.getElem_cons_zero, List.getElem_cons_succ, List.setIfInBounds_toArray, List.set_cons_zero, List.set_cons_succ]
                refine wpAnyH_take (i := 28) (v := ?_) rfl (by kernel_rfl) (by kernel_rfl) (by kernel_rfl) (fun _ _ _ h => h) (Or.inl ⟨by rfl, ?_⟩) (by assumption) ?_
                rotate_left
                first | (focus ((intro w hSw; (try dsimp only at hSw); go_simp); (try with_reducible rfl); done)) | fail
                try simp only [Act.put, List.getElem_toArray, List.getElem_cons_zero, List.getElem_cons_succ, List.setIfInBounds_toArray, List.set_cons_zero, List.set_cons_succ]
                refine wpAnyH_take (i := 29) (v := ?_) rfl (by kernel_rfl) (by kernel_rfl) (by kernel_rfl) (fun _ _ _ h => h) (Or.inl ⟨by rfl, ?_⟩) (by assumption) ?_
                rotate_left
                first | (focus ((intro w hSw; (try dsimp only at hSw); go_simp); (try with_reducible rfl); done)) | fail
                try simp only [Act.put, List.getElem_toArray, List.getElem_cons_zero, List.getElem_cons_succ, List.setIfInBounds_toArray, List.set_cons_zero, List.set_cons_succ]
                refine wpAnyH_take (i := 30) (v := ?_) rfl (by kernel_rfl) (by kernel_rfl) (by kernel_rfl) (fun _ _ _ h => h) (Or.inl ⟨by rfl, ?_⟩) (by assumption) ?_
                rotate_left
                first | (focus ((intro w hSw; (try dsimp only at hSw); go_simp); (try with_reducible rfl); done)) | fail
                try simp only [Act.put, List.getElem_toArray, List.getElem_cons_zero, List.getElem_cons_succ, List.setIfInBounds_toArray, List.set_cons_zero, List.set_cons_succ]
                refine wpAnyH_take (i := 31) (v := ?_) rfl (by kernel_rfl) (by kernel_rfl) (by kernel_rfl) (fun _ _ _ h => h) (Or.inl ⟨by rfl, ?_⟩) (by assumption) ?_
                rotate_left
                first | (focus ((intro w hSw; (try dsimp only at hSw); go_simp); (try with_reducible rfl); done)) | fail
                try simp only [Act.put, List.getElem_toArray, List.getElem_cons_zero, List.getElem_cons_succ, List.setIfInBounds_toArray, List.set_cons_zero, List.set_cons_succ]
                refine wpAnyH_take (i := 32) (v := ?_) rfl (by kernel_rfl) (by kernel_rfl) (by kernel_rfl) (fun _ _ _ h => h) (Or.inl ⟨by rfl, ?_⟩) (by assumption) ?_
                rotate_left
                first | (focus ((intro w hSw; (try dsimp only at hSw); go_simp); (try with_reducible rfl); done)) | fail
                try simp only [Act.put, List.getElem_toArray, List.getElem_cons_zero, List.getElem_cons_succ, List.setIfInBounds_toArray, List.set_cons_zero, List.set_cons_succ]
                refine wpAnyH_take (i := 33) (v := ?_) rfl (by kernel_rfl) (by kernel_rfl) (by kernel_rfl) (fun _ _ _ h => h) (Or.inl ⟨by rfl, ?_⟩) (by assumption) ?_
                rotate_left
                first | (focus ((intro w hSw; (try dsimp only at hSw); go_simp); (try with_reducible rfl); done)) | fail
                try simp only [Act.put, List.getElem_toArray, List.getElem_cons_zero, List.getElem_cons_succ, List.setIfInBounds_toArray, List.set_cons_zero, List.set_cons_succ]
                refine wpAnyH_done (by kernel_rfl) ?_ _
                go_wp2
                go_ret
                exact ⟨by rw [HV2.out, ovG_no HXj.out HX.out]; rfl, HEV1.out.2.2.1.drew.trans (below_of_le B5.out HEV1.out.2.2.2)⟩
              · have hs1 : decide (o3 ≤ x3) = false := decide_eq_false hs
                have HX := Lib.hid (show okP ((o1, o2), o3) (prevAt none L 0) ((x1, x2), x3) = true from by rw [HPV.out]; unfold okP; rw [hr', hq1, hs1]; rfl)
                clear hq1 hr'
                refine wp_region_held_drew (S := (fun W => W.cell? ⟨D, 0, none⟩ = some (.int .i64 x1) ∧ W.cell? ⟨D, 1, none⟩ = some (.int .i64 x2) ∧ W.cell? ⟨D, 2, none⟩ = some (.int .i64 x3) ∧ W.cell? ⟨w.heap.size, 0, none⟩ = some (.int .i64 o1) ∧ W.cell? ⟨w.heap.size, 1, none⟩ = some (.int .i64 o2) ∧ W.cell? ⟨w.heap.size, 2, none⟩ = some (.int .i64 o3) ∧ W.cell? ⟨w.heap.size, 18, none⟩ = some (.slice (some ⟨b0, o0, none⟩) n c))) (by kernel_rfl) ?_ (fun hHeld => ?_)
                · (try dsimp only); exact HS.out
                refine wpAnyH_take (i := 0) (v := ?_) rfl (by kernel_rfl) (by kernel_rfl) (by kernel_rfl) (fun _ _ _ h => h) (Or.inl ⟨by rfl, ?_⟩) (by assumption) ?_
                rotate_left
                first | (focus ((intro w hSw; (try dsimp only at hSw); go_simp); (try with_reducible rfl); done)) | fail
                try simp only [Act.put, List.getElem_toArray, List.getElem_cons_zero, List.setIfInBounds_toArray, List.set_cons_zero, List.set_cons_succ]
                refine wpAnyH_ready (rs := [1]) (by kernel_rfl) (by simp) ?_
                refine AllReadyH.cons rfl (fun K hK => ?_) AllReadyH.nil
                go_simp
                refine (CR.out _).mono ?_; rintro r w5 ⟨rfl, b5⟩
                go_wp2_with fail
                refine hK.out _ _ ?_ (fun hHeld => ?_)
                · (try dsimp only); exact ⟨((below_of_le b5 hN0).cell hDl).trans hHeld.1, ((below_of_le b5 hN0).cell hDl).trans hHeld.2.1, ((below_of_le b5 hN0).cell hDl).trans hHeld.2.2.1, ((below_of_le b5 hN0).cell hEl).trans hHeld.2.2.2.1, ((below_of_le b5 hN0).cell hEl).trans hHeld.2.2.2.2.1, ((below_of_le b5 hN0).cell hEl).trans hHeld.2.2.2.2.2.1, ((below_of_le b5 hN0).cell hEl).trans hHeld.2.2.2.2.2.2⟩
                clear hK K
                try simp only [Act.put, List.getElem_toArray, List.getElem_cons_zero, List.getElem_cons_succ, List.setIfInBounds_toArray, List.set_cons_zero, List.set_cons_succ]
                have B5 := Lib.hid (below_of_le b5 hN0)
                clear b5
                refine wpAnyH_take (i := 2) (v := ?_) rfl (by kernel_rfl) (by kernel_rfl) (by kernel_rfl) (fun _ _ _ h => h) (Or.inl ⟨by rfl, ?_⟩) (by assumption) ?_
                rotate_left
                first | (focus ((intro w hSw; (try dsimp only at hSw); go_simp); (try with_reducible rfl); done)) | fail
                try simp only [Act.put, List.getElem_toArray, List.getElem_cons_zero, List.getElem_cons_succ, List.setIfInBounds_toArray, List.set_cons_zero, List.set_cons_succ]
                refine wpAnyH_take (i := 3) (v := ?_) rfl (by kernel_rfl) (by kernel_rfl) (by kernel_rfl) (fun _ _ _ h => h) (Or.inl ⟨by rfl, ?_⟩) (by assumption) ?_
                rotate_left
                first | (focus ((intro w hSw; (try dsimp only at hSw); go_simp); (try with_reducible rfl); done)) | fail
                try simp only [Act.put, List.getElem_toArray, List.getElem_cons_zero, List.getElem_cons_succ, List.setIfInBounds_toArray, List.set_cons_zero, List.set_cons_succ]
                refine wpAnyH_take (i := 4) (v := ?_) rfl (by kernel_rfl) (by kernel_rfl) (by kernel_rfl) (fun _ _ _ h => h) (Or.inl ⟨by rfl, ?_⟩) (by assumption) ?_
                rotate_left
                first | (focus ((intro w hSw; (try dsimp only at hSw); go_simp); (try with_reducible rfl); done)) | fail
                try simp only [Act.put, List.getElem_toArray, List.getElem_cons_zero, List.getElem_cons_succ, List.setIfInBounds_toArray, List.set_cons_zero, List.set_cons_succ]
                refine wpAnyH_take (i := 5) (v := ?_) rfl (by kernel_rfl) (by kernel_rfl) (by kernel_rfl) (fun _ _ _ h => h) (Or.inl ⟨by rfl, ?_⟩) (by assumption) ?_
                rotate_left
                first | (focus ((intro w hSw; (try dsimp only at hSw); go_simp); (try with_reducible rfl); done)) | fail
                try simp only [Act.put, List.getElem_toArray, List.getElem_cons_zero, List.getElem_cons_succ, List.setIfInBounds_toArray, List.set_cons_zero, List.set_cons_succ]
                refine wpAnyH_take (i := 6) (v := ?_) rfl (by kernel_rfl) (by kernel_rfl) (by kernel_rfl) (fun _ _ _ h => h) (Or.inl ⟨by rfl, ?_⟩) (by assumption) ?_
                rotate_left
                first | (focus ((intro w hSw; (try dsimp only at hSw); go_simp); (try with_reducible rfl); done)) | fail
                try simp only [Act.put, List.getElem_toArray, List.getElem_cons_zero, List.getElem_cons_succ, List.setIfInBounds_toArray, List.set_cons_zero, List.set_cons_succ]
                refine wpAnyH_take (i := 7) (v := undef) rfl (by kernel_rfl) (by kernel_rfl) (by kernel_rfl) (fun _ _ _ h => h) (Or.inr ⟨by rfl, rfl⟩) (by assumption) ?_
                try simp only [Act.put, List.getElem_toArray, List.getElem_cons_zero, List.getElem_cons_succ, List.setIfInBounds_toArray, List.set_cons_zero, List.set_cons_succ]
                refine wpAnyH_take (i := 8) (v := undef) rfl (by kernel_rfl) (by kernel_rfl) (by kernel_rfl) (fun _ _ _ h => h) (Or.inr ⟨by rfl, rfl⟩) (by assumption) ?_
                try simp only [Act.put, List.getElem_toArray, List.getElem_cons_zero, List.getElem_cons_succ, List.setIfInBounds_toArray, List.set_cons_zero, List.set_cons_succ]
                refine wpAnyH_take (i := 9) (v := undef) rfl (by kernel_rfl) (by kernel_rfl) (by kernel_rfl) (fun _ _ _ h => h) (Or.inr ⟨by rfl, rfl⟩) (by assumption) ?_
                try simp only [Act.put, List.getElem_toArray, List.getElem_cons_zero, List.getElem_cons_succ, List.setIfInBounds_toArray, List.set_cons_zero, List.set_cons_succ]
                refine wpAnyH_take (i := 10) (v := undef) rfl (by kernel_rfl) (by kernel_rfl) (by kernel_rfl) (fun _ _ _ h => h) (Or.inr ⟨by rfl, rfl⟩) (by assumption) ?_
                try simp only [Act.put, List.getElem_toArray, List.getElem_cons_zero, List.getElem_cons_succ, List.setIfInBounds_toArray, List.set_cons_zero, List.set_cons_succ]
                refine wpAnyH_take (i := 11) (v := undef) rfl (by kernel_rfl) (by kernel_rfl) (by kernel_rfl) (fun _ _ _ h => h) (Or.inr ⟨by rfl, rfl⟩) (by assumption) ?_
                try simp only [Act.put, List.getElem_toArray, List.getElem_cons_zero, List.getElem_cons_succ, List.setIfInBounds_toArray, List.set_cons_zero, List.set_cons_succ]
                refine wpAnyH_take (i := 12) (v := undef) rfl (by kernel_rfl) (by kernel_rfl) (by kernel_rfl) (fun _ _ _ h => h) (Or.inr ⟨by rfl, rfl⟩) (by assumption) ?_
                try simp only [Act.put, List.getElem_toArray, List.getElem_cons_zero, List.getElem_cons_succ, List.setIfInBounds_toArray, List.set_cons_zero, List.set_cons_succ]
                refine wpAnyH_take (i := 13) (v := undef) rfl (by kernel_rfl) (by kernel_rfl) (by kernel_rfl) (fun _ _ _ h => h) (Or.inr ⟨by rfl, rfl⟩) (by assumption) ?_
                try simp only [Act.put, List.getElem_toArray, List.getElem_cons_zero, List.getElem_cons_succ, List.setIfInBounds_toArray, List.set_cons_zero, List.set_cons_succ]
                refine wpAnyH_take (i := 14) (v := undef) rfl (by kernel_rfl) (by kernel_rfl) (by kernel_rfl) (fun _ _ _ h => h) (Or.inr ⟨by rfl, rfl⟩) (by assumption) ?_
                try simp only [Act.put, List.getElem_toArray, List.getElem_cons_zero, List.getElem_cons_succ, List.setIfInBounds_toArray, List.set_cons_zero, List.set_cons_succ]
                refine wpAnyH_take (i := 15) (v := undef) rfl (by kernel_rfl) (by kernel_rfl) (by kernel_rfl) (fun _ _ _ h => h) (Or.inr ⟨by rfl, rfl⟩) (by assumption) ?_
                try simp only [Act.put, List.getElem_toArray, List.getElem_cons_zero, List.getElem_cons_succ, List.setIfInBounds_toArray, List.set_cons_zero, List.set_cons_succ]
                refine wpAnyH_take (i := 16) (v := ?_) rfl (by kernel_rfl) (by kernel_rfl) (by kernel_rfl) (fun _ _ _ h => h) (Or.inl ⟨by rfl, ?_⟩) (by assumption) ?_
                rotate_left
                first | (focus ((intro w hSw; (try dsimp only at hSw); go_simp); (try with_reducible rfl); done)) | fail
                try simp only [Act.put, List.getElem_toArray, List.getElem_cons_zero, List.getElem_cons_succ, List.setIfInBounds_toArray, List.set_cons_zero, List.set_cons_succ]
                refine wpAnyH_take (i := 17) (v := ?_) rfl (by kernel_rfl) (by kernel_rfl) (by kernel_rfl) (fun _ _ _ h => h) (Or.inl ⟨by rfl, ?_⟩) (by assumption) ?_
                rotate_left
                first | (focus ((intro w hSw; (try dsimp only at hSw); go_simp); (try with_reducible rfl); done)) | fail
                try simp only [Act.put, List.getElem_toArray, List.getElem_cons_zero, List.getElem_cons_succ, List.setIfInBounds_toArray, List.set_cons_zero, List.set_cons_succ]
                refine wpAnyH_take (i := 18) (v := ?_) rfl (by kernel_rfl) (by kernel_rfl) (by kernel_rfl) (fun _ _ _ h => h) (Or.inl ⟨by rfl, ?_⟩) (by assumption) ?_
                rotate_left
                first | (focus ((intro w hSw; (try dsimp only at hSw); go_simp); (try with_reducible rfl); done)) | fail
                try simp only [Act.put, List.getElem_toArray, List.getElem_cons_zero, List.getElem_cons_succ, List.setIfInBounds_toArray, List.set_cons_zero, List.set_cons_succ]
                refine wpAnyH_take (i := 19) (v := ?_) rfl (by kernel_rfl) (by kernel_rfl) (by kernel_rfl) (fun _ _ _ h => h) (Or.inl ⟨by rfl, ?_⟩) (by assumption) ?_
                rotate_left
                first | (focus ((intro w hSw; (try dsimp only at hSw); go_simp); (try with_reducible rfl); done)) | fail
                try simp only [Act.put, List.getElem_toArray, List.getElem_cons_zero, List.getElem_cons_succ, List.setIfInBounds_toArray, List.set_cons_zero, List.set_cons_succ]
                refine wpAnyH_take (i := 20) (v := ?_) rfl (by kernel_rfl) (by kernel_rfl) (by kernel_rfl) (fun _ _ _ h => h) (Or.inl ⟨by rfl, ?_⟩) (by assumption) ?_
                rotate_left
                first | (focus ((intro w hSw; (try dsimp only at hSw); go_simp); (try with_reducible rfl); done)) | fail
                try simp only [Act.put, List.getElem_toArray, List.getElem_cons_zero, List.getElem_cons_succ, List.setIfInBounds_toArray, List.set_cons_zero, List.set_cons_succ]
                refine wpAnyH_take (i := 21) (v := ?_) rfl (by kernel_rfl) (by kernel_rfl) (by kernel_rfl) (fun _ _ _ h => h) (Or.inl ⟨by rfl, ?_⟩) (by assumption) ?_
                rotate_left
                first | (focus ((intro w hSw; (try dsimp only at hSw); go_simp); (try with_reducible rfl); done)) | fail
                try simp only [Act.put, List.getElem_toArray, List.getElem_cons_zero, List.getElem_cons_succ, List.setIfInBounds_toArray, List.set_cons_zero, List.set_cons_succ]
                refine wpAnyH_take (i := 22) (v := ?_) rfl (by kernel_rfl) (by kernel_rfl) (by kernel_rfl) (fun _ _ _ h => h) (Or.inl ⟨by rfl, ?_⟩) (by assumption) ?_
                rotate_left
                first | (focus ((intro w hSw; (try dsimp only at hSw); go_simp); (try with_reducible rfl); done)) | fail
                try simp only [Act.put, List.getElem_toArray, List.getElem_cons_zero, List.getElem_cons_succ, List.setIfInBounds_toArray, List.set_cons_zero, List.set_cons_succ]
                refine wpAnyH_take (i := 23) (v := ?_) rfl (by kernel_rfl) (by kernel_rfl) (by kernel_rfl) (fun _ _ _ h => h) (Or.inl ⟨by rfl, ?_⟩) (by assumption) ?_
                rotate_left
                first | (focus ((intro w hSw; (try dsimp only at hSw); go_simp); (try with_reducible rfl); done)) | fail
                try simp only [Act.put, List.getElem_toArray, List.getElem_cons_zero, List.getElem_cons_succ, List.setIfInBounds_toArray, List.set_cons_zero, List.set_cons_succ]
                refine wpAnyH_take (i := 24) (v := ?_) rfl (by kernel_rfl) (by kernel_rfl) (by kernel_rfl) (fun _ _ _ h => h) (Or.inl ⟨by rfl, ?_⟩) (by assumption) ?_
                rotate_left
                first | (focus ((intro w hSw; (try dsimp only at hSw); go_simp); (try with_reducible rfl); done)) | fail
                try simp only [Act.put, List.getElem_toArray, List.getElem_cons_zero, List.getElem_cons_succ, List.setIfInBounds_toArray, List.set_cons_zero, List.set_cons_succ]
                refine wpAnyH_take (i := 25) (v := ?_) rfl (by kernel_rfl) (by kernel_rfl) (by kernel_rfl) (fun _ _ _ h => h) (Or.inl ⟨by rfl, ?_⟩) (by assumption) ?_
                rotate_left
                first | (focus ((intro w hSw; (try dsimp only at hSw); go_simp); (try with_reducible rfl); done)) | fail
                try simp only [Act.put, List.getElem_toArray, List.getElem_cons_zero, List.getElem_cons_succ, List.setIfInBounds_toArray, List.set_cons_zero, List.set_cons_succ]
                refine wpAnyH_take (i := 26) (v := ?_) rfl (by kernel_rfl) (by kernel_rfl) (by kernel_rfl) (fun _ _ _ h => h) (Or.inl ⟨by rfl, ?_⟩) (by assumption) ?_
                rotate_left
                first | (focus ((intro w hSw; (try dsimp only at hSw); go_simp); (try with_reducible rfl); done)) | fail
                try simp only [Act.put, List.getElem_toArray, List.getElem_cons_zero, List.getElem_cons_succ, List.setIfInBounds_toArray, List.set_cons_zero, List.set_cons_succ]
                refine wpAnyH_take (i := 27) (v := ?_) rfl (by kernel_rfl) (by kernel_rfl) (by kernel_rfl) (fun _ _ _ h => h) (Or.inl ⟨by rfl, ?_⟩) (by assumption) ?_
                rotate_left
                first | (focus ((intro w hSw; (try dsimp only at hSw); go_simp); (try with_reducible rfl); done)) | fail
                try simp only [Act.put, List.getElem_toArray, List.getElem_cons_zero, List.getElem_cons_succ, List.setIfInBounds_toArray, List.set_cons_zero, List.set_cons_succ]
                refine wpAnyH_take (i := 28) (v := ?_) rfl (by kernel_rfl) (by kernel_rfl) (by kernel_rfl) (fun _ _ _ h => h) (Or.inl ⟨by rfl, ?_⟩) (by assumption) ?_
                rotate_left
                first | (focus ((intro w hSw; (try dsimp only at hSw); go_simp); (try with_reducible rfl); done)) | fail
                try simp only [Act.put, List.getElem_toArray, List.getElem_cons_zero, List.getElem_cons_succ, List.setIfInBounds_toArray, List.set_cons_zero, List.set_cons_succ]
                refine wpAnyH_take (i := 29) (v := ?_) rfl (by kernel_rfl) (by kernel_rfl) (by kernel_rfl) (fun _ _ _ h => h) (Or.inl ⟨by rfl, ?_⟩) (by assumption) ?_
                rotate_left
                first | (focus ((intro w hSw; (try dsimp only at hSw); go_simp); (try with_reducible rfl); done)) | fail
                try simp only [Act.put, List.getElem_toArray, List.getElem_cons_zero, List.getElem_cons_succ, List.setIfInBounds_toArray, List.set_cons_zero, List.set_cons_succ]
                refine wpAnyH_take (i := 30) (v := ?_) rfl (by kernel_rfl) (by kernel_rfl) (by kernel_rfl) (fun _ _ _ h => h) (Or.inl ⟨by rfl, ?_⟩) (by assumption) ?_
                rotate_left
                first | (focus ((intro w hSw; (try dsimp only at hSw); go_simp); (try with_reducible rfl); done)) | fail
                try simp only [Act.put, List.getElem_toArray, List.getElem_cons_zero, List.getElem_cons_succ, List.setIfInBounds_toArray, List.set_cons_zero, List.set_cons_succ]
                refine wpAnyH_take (i := 31) (v := ?_) rfl (by kernel_rfl) (by kernel_rfl) (by kernel_rfl) (fun _ _ _ h => h) (Or.inl ⟨by rfl, ?_⟩) (by assumption) ?_
                rotate_left
                first | (focus ((intro w hSw; (try dsimp only at hSw); go_simp); (try with_reducible rfl); done)) | fail
                try simp only [Act.put, List.getElem_toArray, List.getElem_cons_zero, List.getElem_cons_succ, List.setIfInBounds_toArray, List.set_cons_zero, List.set_cons_succ]
                refine wpAnyH_take (i := 32) (v := ?_) rfl (by kernel_rfl) (by kernel_rfl) (by kernel_rfl) (fun _ _ _ h => h) (Or.inl ⟨by rfl, ?_⟩) (by assumption) ?_
                rotate_left
                first | (focus ((intro w hSw; (try dsimp only at hSw); go_simp); (try with_reducible rfl); done)) | fail
                try simp only [Act.put, List.getElem_toArray, List.getElem_cons_zero, List.getElem_cons_succ, List.setIfInBounds_toArray, List.set_cons_zero, List.set_cons_succ]
                refine wpAnyH_take (i := 33) (v := ?_) rfl (by kernel_rfl) (by kernel_rfl) (by kernel_rfl) (fun _ _ _ h => h) (Or.inl ⟨by rfl, ?_⟩) (by assumption) ?_
                rotate_left
                first | (focus ((intro w hSw; (try dsimp only at hSw); go_simp); (try with_reducible rfl); done)) | fail
                try simp only [Act.put, List.getElem_toArray, List.getElem_cons_zero, List.getElem_cons_succ, List.setIfInBounds_toArray, List.set_cons_zero, List.set_cons_succ]
                refine wpAnyH_done (by kernel_rfl) ?_ _
                go_wp2
                go_roundw
                case rel => exact ⟨_, by omega, by go_num, ok_step HK.out.1 HXj.out HX.out, HEV1.out.drew.step B5.out⟩
                case measure => simp [intOf]; omega
            · have hEq : ∀ w : World, (binOp .eql 48 (.agg #[.int .i64 x1, .int .i64 x2]) (.agg #[.int .i64 o1, .int .i64 o2])).run Tryz.prog w = .ok (.bool false) w := fun w => by have h := eql_act x1 x2 o1 o2 w; unfold actV at h; rw [decide_eq_false hq] at h; exact h
              have hq1 : decide (((x1, x2) : Ac) = (o1, o2)) = false := decide_eq_false (fun e => hq ⟨congrArg Prod.fst e, congrArg Prod.snd e⟩)
              clear hq
              have HX := Lib.hid (show okP ((o1, o2), o3) (prevAt none L 0) ((x1, x2), x3) = true from by rw [HPV.out]; unfold okP; rw [hr', hq1]; rfl)
              clear hq1 hr'
              refine wp_region_held_drew (S := (fun W => W.cell? ⟨D, 0, none⟩ = some (.int .i64 x1) ∧ W.cell? ⟨D, 1, none⟩ = some (.int .i64 x2) ∧ W.cell? ⟨D, 2, none⟩ = some (.int .i64 x3) ∧ W.cell? ⟨w.heap.size, 0, none⟩ = some (.int .i64 o1) ∧ W.cell? ⟨w.heap.size, 1, none⟩ = some (.int .i64 o2) ∧ W.cell? ⟨w.heap.size, 2, none⟩ = some (.int .i64 o3) ∧ W.cell? ⟨w.heap.size, 18, none⟩ = some (.slice (some ⟨b0, o0, none⟩) n c))) (by kernel_rfl) ?_ (fun hHeld => ?_)
              · (try dsimp only); exact HS.out
              refine wpAnyH_take (i := 0) (v := ?_) rfl (by kernel_rfl) (by kernel_rfl) (by kernel_rfl) (fun _ _ _ h => h) (Or.inl ⟨by rfl, ?_⟩) (by assumption) ?_
              rotate_left
              first | (focus ((intro w hSw; (try dsimp only at hSw); go_simp); (try with_reducible rfl); done)) | fail
              try simp only [Act.put, List.getElem_toArray, List.getElem_cons_zero, List.setIfInBounds_toArray, List.set_cons_zero, List.set_cons_succ]
              refine wpAnyH_ready (rs := [1]) (by kernel_rfl) (by simp) ?_
              refine AllReadyH.cons rfl (fun K hK => ?_) AllReadyH.nil
              go_simp
              refine (CR.out _).mono ?_; rintro r w5 ⟨rfl, b5⟩
              go_wp2_with fail
              refine hK.out _ _ ?_ (fun hHeld => ?_)
              · (try dsimp only); exact ⟨((below_of_le b5 hN0).cell hDl).trans hHeld.1, ((below_of_le b5 hN0).cell hDl).trans hHeld.2.1, ((below_of_le b5 hN0).cell hDl).trans hHeld.2.2.1, ((below_of_le b5 hN0).cell hEl).trans hHeld.2.2.2.1, ((below_of_le b5 hN0).cell hEl).trans hHeld.2.2.2.2.1, ((below_of_le b5 hN0).cell hEl).trans hHeld.2.2.2.2.2.1, ((below_of_le b5 hN0).cell hEl).trans hHeld.2.2.2.2.2.2⟩
              clear hK K
              try simp only [Act.put, List.getElem_toArray, List.getElem_cons_zero, List.getElem_cons_succ, List.setIfInBounds_toArray, List.set_cons_zero, List.set_cons_succ]
              have B5 := Lib.hid (below_of_le b5 hN0)
              clear b5
              refine wpAnyH_take (i := 2) (v := ?_) rfl (by kernel_rfl) (by kernel_rfl) (by kernel_rfl) (fun _ _ _ h => h) (Or.inl ⟨by rfl, ?_⟩) (by assumption) ?_
              rotate_left
              first | (focus ((intro w hSw; (try dsimp only at hSw); go_simp); (try with_reducible rfl); done)) | fail
              try simp only [Act.put, List.getElem_toArray, List.getElem_cons_zero, List.getElem_cons_succ, List.setIfInBounds_toArray, List.set_cons_zero, List.set_cons_succ]
              refine wpAnyH_take (i := 3) (v := ?_) rfl (by kernel_rfl) (by kernel_rfl) (by kernel_rfl) (fun _ _ _ h => h) (Or.inl ⟨by rfl, ?_⟩) (by assumption) ?_
              rotate_left
              first | (focus ((intro w hSw; (try dsimp only at hSw); go_simp); (try with_reducible rfl); done)) | fail
              try simp only [Act.put, List.getElem_toArray, List.getElem_cons_zero, List.getElem_cons_succ, List.setIfInBounds_toArray, List.set_cons_zero, List.set_cons_succ]
              refine wpAnyH_take (i := 4) (v := ?_) rfl (by kernel_rfl) (by kernel_rfl) (by kernel_rfl) (fun _ _ _ h => h) (Or.inl ⟨by rfl, ?_⟩) (by assumption) ?_
              rotate_left
              first | (focus ((intro w hSw; (try dsimp only at hSw); go_simp); (try with_reducible rfl); done)) | fail
              try simp only [Act.put, List.getElem_toArray, List.getElem_cons_zero, List.getElem_cons_succ, List.setIfInBounds_toArray, List.set_cons_zero, List.set_cons_succ]
              refine wpAnyH_take (i := 5) (v := ?_) rfl (by kernel_rfl) (by kernel_rfl) (by kernel_rfl) (fun _ _ _ h => h) (Or.inl ⟨by rfl, ?_⟩) (by assumption) ?_
              rotate_left
              first | (focus ((intro w hSw; (try dsimp only at hSw); go_simp); (try with_reducible rfl); done)) | fail
              try simp only [Act.put, List.getElem_toArray, List.getElem_cons_zero, List.getElem_cons_succ, List.setIfInBounds_toArray, List.set_cons_zero, List.set_cons_succ]
              refine wpAnyH_take (i := 6) (v := ?_) rfl (by kernel_rfl) (by kernel_rfl) (by kernel_rfl) (fun _ _ _ h => h) (Or.inl ⟨by rfl, ?_⟩) (by assumption) ?_
              rotate_left
              first | (focus ((intro w hSw; (try dsimp only at hSw); go_simp); (try with_reducible rfl); done)) | fail
              try simp only [Act.put, List.getElem_toArray, List.getElem_cons_zero, List.getElem_cons_succ, List.setIfInBounds_toArray, List.set_cons_zero, List.set_cons_succ]
              refine wpAnyH_take (i := 7) (v := undef) rfl (by kernel_rfl) (by kernel_rfl) (by kernel_rfl) (fun _ _ _ h => h) (Or.inr ⟨by rfl, rfl⟩) (by assumption) ?_
              try simp only [Act.put, List.getElem_toArray, List.getElem_cons_zero, List.getElem_cons_succ, List.setIfInBounds_toArray, List.set_cons_zero, List.set_cons_succ]
              refine wpAnyH_take (i := 8) (v := undef) rfl (by kernel_rfl) (by kernel_rfl) (by kernel_rfl) (fun _ _ _ h => h) (Or.inr ⟨by rfl, rfl⟩) (by assumption) ?_
              try simp only [Act.put, List.getElem_toArray, List.getElem_cons_zero, List.getElem_cons_succ, List.setIfInBounds_toArray, List.set_cons_zero, List.set_cons_succ]
              refine wpAnyH_take (i := 9) (v := undef) rfl (by kernel_rfl) (by kernel_rfl) (by kernel_rfl) (fun _ _ _ h => h) (Or.inr ⟨by rfl, rfl⟩) (by assumption) ?_
              try simp only [Act.put, List.getElem_toArray, List.getElem_cons_zero, List.getElem_cons_succ, List.setIfInBounds_toArray, List.set_cons_zero, List.set_cons_succ]
              refine wpAnyH_take (i := 10) (v := undef) rfl (by kernel_rfl) (by kernel_rfl) (by kernel_rfl) (fun _ _ _ h => h) (Or.inr ⟨by rfl, rfl⟩) (by assumption) ?_
              try simp only [Act.put, List.getElem_toArray, List.getElem_cons_zero, List.getElem_cons_succ, List.setIfInBounds_toArray, List.set_cons_zero, List.set_cons_succ]
              refine wpAnyH_take (i := 11) (v := undef) rfl (by kernel_rfl) (by kernel_rfl) (by kernel_rfl) (fun _ _ _ h => h) (Or.inr ⟨by rfl, rfl⟩) (by assumption) ?_
              try simp only [Act.put, List.getElem_toArray, List.getElem_cons_zero, List.getElem_cons_succ, List.setIfInBounds_toArray, List.set_cons_zero, List.set_cons_succ]
              refine wpAnyH_take (i := 12) (v := undef) rfl (by kernel_rfl) (by kernel_rfl) (by kernel_rfl) (fun _ _ _ h => h) (Or.inr ⟨by rfl, rfl⟩) (by assumption) ?_
              try simp only [Act.put, List.getElem_toArray, List.getElem_cons_zero, List.getElem_cons_succ, List.setIfInBounds_toArray, List.set_cons_zero, List.set_cons_succ]
              refine wpAnyH_take (i := 13) (v := undef) rfl (by kernel_rfl) (by kernel_rfl) (by kernel_rfl) (fun _ _ _ h => h) (Or.inr ⟨by rfl, rfl⟩) (by assumption) ?_
              try simp only [Act.put, List.getElem_toArray, List.getElem_cons_zero, List.getElem_cons_succ, List.setIfInBounds_toArray, List.set_cons_zero, List.set_cons_succ]
              refine wpAnyH_take (i := 14) (v := undef) rfl (by kernel_rfl) (by kernel_rfl) (by kernel_rfl) (fun _ _ _ h => h) (Or.inr ⟨by rfl, rfl⟩) (by assumption) ?_
              try simp only [Act.put, List.getElem_toArray, List.getElem_cons_zero, List.getElem_cons_succ, List.setIfInBounds_toArray, List.set_cons_zero, List.set_cons_succ]
              refine wpAnyH_take (i := 15) (v := undef) rfl (by kernel_rfl) (by kernel_rfl) (by kernel_rfl) (fun _ _ _ h => h) (Or.inr ⟨by rfl, rfl⟩) (by assumption) ?_
              try simp only [Act.put, List.getElem_toArray, List.getElem_cons_zero, List.getElem_cons_succ, List.setIfInBounds_toArray, List.set_cons_zero, List.set_cons_succ]
              refine wpAnyH_take (i := 16) (v := ?_) rfl (by kernel_rfl) (by kernel_rfl) (by kernel_rfl) (fun _ _ _ h => h) (Or.inl ⟨by rfl, ?_⟩) (by assumption) ?_
              rotate_left
              first | (focus ((intro w hSw; (try dsimp only at hSw); go_simp); (try with_reducible rfl); done)) | fail
              try simp only [Act.put, List.getElem_toArray, List.getElem_cons_zero, List.getElem_cons_succ, List.setIfInBounds_toArray, List.set_cons_zero, List.set_cons_succ]
              refine wpAnyH_take (i := 17) (v := ?_) rfl (by kernel_rfl) (by kernel_rfl) (by kernel_rfl) (fun _ _ _ h => h) (Or.inl ⟨by rfl, ?_⟩) (by assumption) ?_
              rotate_left
              first | (focus ((intro w hSw; (try dsimp only at hSw); go_simp); (try with_reducible rfl); done)) | fail
              try simp only [Act.put, List.getElem_toArray, List.getElem_cons_zero, List.getElem_cons_succ, List.setIfInBounds_toArray, List.set_cons_zero, List.set_cons_succ]
              refine wpAnyH_take (i := 18) (v := ?_) rfl (by kernel_rfl) (by kernel_rfl) (by kernel_rfl) (fun _ _ _ h => h) (Or.inl ⟨by rfl, ?_⟩) (by assumption) ?_
              rotate_left
              first | (focus ((intro w hSw; (try dsimp only at hSw); go_simp); (try with_reducible rfl); done)) | fail
              try simp only [Act.put, List.getElem_toArray, List.getElem_cons_zero, List.getElem_cons_succ, List.setIfInBounds_toArray, List.set_cons_zero, List.set_cons_succ]
              refine wpAnyH_take (i := 19) (v := ?_) rfl (by kernel_rfl) (by kernel_rfl) (by kernel_rfl) (fun _ _ _ h => h) (Or.inl ⟨by rfl, ?_⟩) (by assumption) ?_
              rotate_left
              first | (focus ((intro w hSw; (try dsimp only at hSw); go_simp); (try with_reducible rfl); done)) | fail
              try simp only [Act.put, List.getElem_toArray, List.getElem_cons_zero, List.getElem_cons_succ, List.setIfInBounds_toArray, List.set_cons_zero, List.set_cons_succ]
              refine wpAnyH_take (i := 20) (v := ?_) rfl (by kernel_rfl) (by kernel_rfl) (by kernel_rfl) (fun _ _ _ h => h) (Or.inl ⟨by rfl, ?_⟩) (by assumption) ?_
              rotate_left
              first | (focus ((intro w hSw; (try dsimp only at hSw); go_simp); (try with_reducible rfl); done)) | fail
              try simp only [Act.put, List.getElem_toArray, List.getElem_cons_zero, List.getElem_cons_succ, List.setIfInBounds_toArray, List.set_cons_zero, List.set_cons_succ]
              refine wpAnyH_take (i := 21) (v := ?_) rfl (by kernel_rfl) (by kernel_rfl) (by kernel_rfl) (fun _ _ _ h => h) (Or.inl ⟨by rfl, ?_⟩) (by assumption) ?_
              rotate_left
              first | (focus ((intro w hSw; (try dsimp only at hSw); go_simp); (try with_reducible rfl); done)) | fail
              try simp only [Act.put, List.getElem_toArray, List.getElem_cons_zero, List.getElem_cons_succ, List.setIfInBounds_toArray, List.set_cons_zero, List.set_cons_succ]
              refine wpAnyH_take (i := 22) (v := ?_) rfl (by kernel_rfl) (by kernel_rfl) (by kernel_rfl) (fun _ _ _ h => h) (Or.inl ⟨by rfl, ?_⟩) (by assumption) ?_
              rotate_left
              first | (focus ((intro w hSw; (try dsimp only at hSw); go_simp); (try with_reducible rfl); done)) | fail
              try simp only [Act.put, List.getElem_toArray, List.getElem_cons_zero, List.getElem_cons_succ, List.setIfInBounds_toArray, List.set_cons_zero, List.set_cons_succ]
              refine wpAnyH_take (i := 23) (v := ?_) rfl (by kernel_rfl) (by kernel_rfl) (by kernel_rfl) (fun _ _ _ h => h) (Or.inl ⟨by rfl, ?_⟩) (by assumption) ?_
              rotate_left
              first | (focus ((intro w hSw; (try dsimp only at hSw); go_simp); (try with_reducible rfl); done)) | fail
              try simp only [Act.put, List.getElem_toArray, List.getElem_cons_zero, List.getElem_cons_succ, List.setIfInBounds_toArray, List.set_cons_zero, List.set_cons_succ]
              refine wpAnyH_take (i := 24) (v := ?_) rfl (by kernel_rfl) (by kernel_rfl) (by kernel_rfl) (fun _ _ _ h => h) (Or.inl ⟨by rfl, ?_⟩) (by assumption) ?_
              rotate_left
              first | (focus ((intro w hSw; (try dsimp only at hSw); go_simp); (try with_reducible rfl); done)) | fail
              try simp only [Act.put, List.getElem_toArray, List.getElem_cons_zero, List.getElem_cons_succ, List.setIfInBounds_toArray, List.set_cons_zero, List.set_cons_succ]
              refine wpAnyH_take (i := 25) (v := ?_) rfl (by kernel_rfl) (by kernel_rfl) (by kernel_rfl) (fun _ _ _ h => h) (Or.inl ⟨by rfl, ?_⟩) (by assumption) ?_
              rotate_left
              first | (focus ((intro w hSw; (try dsimp only at hSw); go_simp); (try with_reducible rfl); done)) | fail
              try simp only [Act.put, List.getElem_toArray, List.getElem_cons_zero, List.getElem_cons_succ, List.setIfInBounds_toArray, List.set_cons_zero, List.set_cons_succ]
              refine wpAnyH_take (i := 26) (v := undef) rfl (by kernel_rfl) (by kernel_rfl) (by kernel_rfl) (fun _ _ _ h => h) (Or.inr ⟨by rfl, rfl⟩) (by assumption) ?_
              try simp only [Act.put, List.getElem_toArray, List.getElem_cons_zero, List.getElem_cons_succ, List.setIfInBounds_toArray, List.set_cons_zero, List.set_cons_succ]
              refine wpAnyH_take (i := 27) (v := undef) rfl (by kernel_rfl) (by kernel_rfl) (by kernel_rfl) (fun _ _ _ h => h) (Or.inr ⟨by rfl, rfl⟩) (by assumption) ?_
              try simp only [Act.put, List.getElem_toArray, List.getElem_cons_zero, List.getElem_cons_succ, List.setIfInBounds_toArray, List.set_cons_zero, List.set_cons_succ]
              refine wpAnyH_take (i := 28) (v := undef) rfl (by kernel_rfl) (by kernel_rfl) (by kernel_rfl) (fun _ _ _ h => h) (Or.inr ⟨by rfl, rfl⟩) (by assumption) ?_
              try simp only [Act.put, List.getElem_toArray, List.getElem_cons_zero, List.getElem_cons_succ, List.setIfInBounds_toArray, List.set_cons_zero, List.set_cons_succ]
              refine wpAnyH_take (i := 29) (v := undef) rfl (by kernel_rfl) (by kernel_rfl) (by kernel_rfl) (fun _ _ _ h => h) (Or.inr ⟨by rfl, rfl⟩) (by assumption) ?_
              try simp only [Act.put, List.getElem_toArray, List.getElem_cons_zero, List.getElem_cons_succ, List.setIfInBounds_toArray, List.set_cons_zero, List.set_cons_succ]
              refine wpAnyH_take (i := 30) (v := undef) rfl (by kernel_rfl) (by kernel_rfl) (by kernel_rfl) (fun _ _ _ h => h) (Or.inr ⟨by rfl, rfl⟩) (by assumption) ?_
              try simp only [Act.put, List.getElem_toArray, List.getElem_cons_zero, List.getElem_cons_succ, List.setIfInBounds_toArray, List.set_cons_zero, List.set_cons_succ]
              refine wpAnyH_take (i := 31) (v := undef) rfl (by kernel_rfl) (by kernel_rfl) (by kernel_rfl) (fun _ _ _ h => h) (Or.inr ⟨by rfl, rfl⟩) (by assumption) ?_
              try simp only [Act.put, List.getElem_toArray, List.getElem_cons_zero, List.getElem_cons_succ, List.setIfInBounds_toArray, List.set_cons_zero, List.set_cons_succ]
              refine wpAnyH_take (i := 32) (v := ?_) rfl (by kernel_rfl) (by kernel_rfl) (by kernel_rfl) (fun _ _ _ h => h) (Or.inl ⟨by rfl, ?_⟩) (by assumption) ?_
              rotate_left
              first | (focus ((intro w hSw; (try dsimp only at hSw); go_simp); (try with_reducible rfl); done)) | fail
              try simp only [Act.put, List.getElem_toArray, List.getElem_cons_zero, List.getElem_cons_succ, List.setIfInBounds_toArray, List.set_cons_zero, List.set_cons_succ]
              refine wpAnyH_take (i := 33) (v := ?_) rfl (by kernel_rfl) (by kernel_rfl) (by kernel_rfl) (fun _ _ _ h => h) (Or.inl ⟨by rfl, ?_⟩) (by assumption) ?_
              rotate_left
              first | (focus ((intro w hSw; (try dsimp only at hSw); go_simp); (try with_reducible rfl); done)) | fail
              try simp only [Act.put, List.getElem_toArray, List.getElem_cons_zero, List.getElem_cons_succ, List.setIfInBounds_toArray, List.set_cons_zero, List.set_cons_succ]
              refine wpAnyH_done (by kernel_rfl) ?_ _
              go_wp2
              go_roundw
              case rel => exact ⟨_, by omega, by go_num, ok_step HK.out.1 HXj.out HX.out, HEV1.out.drew.step B5.out⟩
              case measure => simp [intOf]; omega
        · obtain ⟨k, rfl⟩ : ∃ k, j = k + 1 := ⟨j - 1, by omega⟩
          obtain ⟨p, hp⟩ : ∃ p, L[k]? = some p := ⟨L[k]'(by have := HLn.out; omega), List.getElem?_eq_getElem _⟩
          obtain ⟨b1, o1', hA1', _, m0, m1, m2⟩ := Ds.at_ HEV1.out.2.1 hp
          obtain ⟨rfl, rfl⟩ : b0 = b1 ∧ o0 = o1' := by simpa using hA1'
          clear hA1'
          obtain ⟨⟨p1, p2⟩, p3⟩ := p
          simp only at m0 m1 m2
          have HPV := Lib.hid (show prevAt none L (k + 1) = some ((p1, p2), p3) by unfold prevAt; rw [if_neg (by omega)]; exact hp)
          clear hp
          have CL := Lib.hid (fun w => less_dLt p1 p2 p3 x1 x2 x3 w)
          unfold dotV at CL
          have yk : IntKind.i64.wrap (k : Int) = (k : Int) := IntWalk.i64_in _ (by omega)
          have yk2 : decide ((0 : Int) < (k : Int) + 1) = true := decide_eq_true (by omega)
          have hkn : k < n := by omega
          have HS := Lib.hid (And.intro HS.out.1 (And.intro HS.out.2.1 (And.intro HS.out.2.2.1 (And.intro HS.out.2.2.2.1 (And.intro HS.out.2.2.2.2.1 (And.intro HS.out.2.2.2.2.2.1 (And.intro HS.out.2.2.2.2.2.2 (And.intro m0 (And.intro m1 m2)))))))))
          clear m0 m1 m2
          cases hr : dotB x1 x2 x3 with
          | false =>
            rw [hr] at CR
            have hr' : rightD ((x1, x2), x3) = false := hr
            clear hr
            have HX := Lib.hid (show okP ((o1, o2), o3) (prevAt none L (k + 1)) ((x1, x2), x3) = false from by unfold okP; rw [hr']; rfl)
            clear hr'
            refine wp_region_held_drew (S := (fun W => W.cell? ⟨D, 0, none⟩ = some (.int .i64 x1) ∧ W.cell? ⟨D, 1, none⟩ = some (.int .i64 x2) ∧ W.cell? ⟨D, 2, none⟩ = some (.int .i64 x3) ∧ W.cell? ⟨w.heap.size, 0, none⟩ = some (.int .i64 o1) ∧ W.cell? ⟨w.heap.size, 1, none⟩ = some (.int .i64 o2) ∧ W.cell? ⟨w.heap.size, 2, none⟩ = some (.int .i64 o3) ∧ W.cell? ⟨w.heap.size, 18, none⟩ = some (.slice (some ⟨b0, o0, none⟩) n c) ∧ W.cell? ⟨b0, o0 + k * 3, none⟩ = some (.int .i64 p1) ∧ W.cell? ⟨b0, o0 + k * 3 + 1, none⟩ = some (.int .i64 p2) ∧ W.cell? ⟨b0, o0 + k * 3 + 2, none⟩ = some (.int .i64 p3))) (by kernel_rfl) ?_ (fun hHeld => ?_)
            · (try dsimp only); exact HS.out
            refine wpAnyH_take (i := 0) (v := ?_) rfl (by kernel_rfl) (by kernel_rfl) (by kernel_rfl) (fun _ _ _ h => h) (Or.inl ⟨by rfl, ?_⟩) (by assumption) ?_
            rotate_left
            first | (focus ((intro w hSw; (try dsimp only at hSw); go_simp); (try with_reducible rfl); done)) | fail
            try simp only [Act.put, List.getElem_toArray, List.getElem_cons_zero, List.setIfInBounds_toArray, List.set_cons_zero, List.set_cons_succ]
            refine wpAnyH_ready (rs := [1]) (by kernel_rfl) (by simp) ?_
            refine AllReadyH.cons rfl (fun K hK => ?_) AllReadyH.nil
            go_simp
            refine (CR.out _).mono ?_; rintro r w5 ⟨rfl, b5⟩
            go_wp2_with fail
            refine hK.out _ _ ?_ (fun hHeld => ?_)
            · (try dsimp only); exact ⟨((below_of_le b5 hN0).cell hDl).trans hHeld.1, ((below_of_le b5 hN0).cell hDl).trans hHeld.2.1, ((below_of_le b5 hN0).cell hDl).trans hHeld.2.2.1, ((below_of_le b5 hN0).cell hEl).trans hHeld.2.2.2.1, ((below_of_le b5 hN0).cell hEl).trans hHeld.2.2.2.2.1, ((below_of_le b5 hN0).cell hEl).trans hHeld.2.2.2.2.2.1, ((below_of_le b5 hN0).cell hEl).trans hHeld.2.2.2.2.2.2.1, ((below_of_le b5 hN0).cell hbl).trans hHeld.2.2.2.2.2.2.2.1, ((below_of_le b5 hN0).cell hbl).trans hHeld.2.2.2.2.2.2.2.2.1, ((below_of_le b5 hN0).cell hbl).trans hHeld.2.2.2.2.2.2.2.2.2⟩
            clear hK K
            try simp only [Act.put, List.getElem_toArray, List.getElem_cons_zero, List.getElem_cons_succ, List.setIfInBounds_toArray, List.set_cons_zero, List.set_cons_succ]
            have B5 := Lib.hid (below_of_le b5 hN0)
            clear b5
            refine wpAnyH_take (i := 2) (v := ?_) rfl (by kernel_rfl) (by kernel_rfl) (by kernel_rfl) (fun _ _ _ h => h) (Or.inl ⟨by rfl, ?_⟩) (by assumption) ?_
            rotate_left
            first | (focus ((intro w hSw; (try dsimp only at hSw); go_simp); (try with_reducible rfl); done)) | fail
            try simp only [Act.put, List.getElem_toArray, List.getElem_cons_zero, List.getElem_cons_succ, List.setIfInBounds_toArray, List.set_cons_zero, List.set_cons_succ]
            refine wpAnyH_take (i := 3) (v := ?_) rfl (by kernel_rfl) (by kernel_rfl) (by kernel_rfl) (fun _ _ _ h => h) (Or.inl ⟨by rfl, ?_⟩) (by assumption) ?_
            rotate_left
            first | (focus ((intro w hSw; (try dsimp only at hSw); go_simp); (try with_reducible rfl); done)) | fail
            try simp only [Act.put, List.getElem_toArray, List.getElem_cons_zero, List.getElem_cons_succ, List.setIfInBounds_toArray, List.set_cons_zero, List.set_cons_succ]
            refine wpAnyH_take (i := 4) (v := undef) rfl (by kernel_rfl) (by kernel_rfl) (by kernel_rfl) (fun _ _ _ h => h) (Or.inr ⟨by rfl, rfl⟩) (by assumption) ?_
            try simp only [Act.put, List.getElem_toArray, List.getElem_cons_zero, List.getElem_cons_succ, List.setIfInBounds_toArray, List.set_cons_zero, List.set_cons_succ]
            refine wpAnyH_take (i := 5) (v := undef) rfl (by kernel_rfl) (by kernel_rfl) (by kernel_rfl) (fun _ _ _ h => h) (Or.inr ⟨by rfl, rfl⟩) (by assumption) ?_
            try simp only [Act.put, List.getElem_toArray, List.getElem_cons_zero, List.getElem_cons_succ, List.setIfInBounds_toArray, List.set_cons_zero, List.set_cons_succ]
            refine wpAnyH_take (i := 6) (v := undef) rfl (by kernel_rfl) (by kernel_rfl) (by kernel_rfl) (fun _ _ _ h => h) (Or.inr ⟨by rfl, rfl⟩) (by assumption) ?_
            try simp only [Act.put, List.getElem_toArray, List.getElem_cons_zero, List.getElem_cons_succ, List.setIfInBounds_toArray, List.set_cons_zero, List.set_cons_succ]
            refine wpAnyH_take (i := 7) (v := undef) rfl (by kernel_rfl) (by kernel_rfl) (by kernel_rfl) (fun _ _ _ h => h) (Or.inr ⟨by rfl, rfl⟩) (by assumption) ?_
            try simp only [Act.put, List.getElem_toArray, List.getElem_cons_zero, List.getElem_cons_succ, List.setIfInBounds_toArray, List.set_cons_zero, List.set_cons_succ]
            refine wpAnyH_take (i := 8) (v := undef) rfl (by kernel_rfl) (by kernel_rfl) (by kernel_rfl) (fun _ _ _ h => h) (Or.inr ⟨by rfl, rfl⟩) (by assumption) ?_
            try simp only [Act.put, List.getElem_toArray, List.getElem_cons_zero, List.getElem_cons_succ, List.setIfInBounds_toArray, List.set_cons_zero, List.set_cons_succ]
            refine wpAnyH_take (i := 9) (v := undef) rfl (by kernel_rfl) (by kernel_rfl) (by kernel_rfl) (fun _ _ _ h => h) (Or.inr ⟨by rfl, rfl⟩) (by assumption) ?_
            try simp only [Act.put, List.getElem_toArray, List.getElem_cons_zero, List.getElem_cons_succ, List.setIfInBounds_toArray, List.set_cons_zero, List.set_cons_succ]
            refine wpAnyH_take (i := 10) (v := undef) rfl (by kernel_rfl) (by kernel_rfl) (by kernel_rfl) (fun _ _ _ h => h) (Or.inr ⟨by rfl, rfl⟩) (by assumption) ?_
            try simp only [Act.put, List.getElem_toArray, List.getElem_cons_zero, List.getElem_cons_succ, List.setIfInBounds_toArray, List.set_cons_zero, List.set_cons_succ]
            refine wpAnyH_take (i := 11) (v := undef) rfl (by kernel_rfl) (by kernel_rfl) (by kernel_rfl) (fun _ _ _ h => h) (Or.inr ⟨by rfl, rfl⟩) (by assumption) ?_
            try simp only [Act.put, List.getElem_toArray, List.getElem_cons_zero, List.getElem_cons_succ, List.setIfInBounds_toArray, List.set_cons_zero, List.set_cons_succ]
            refine wpAnyH_take (i := 12) (v := undef) rfl (by kernel_rfl) (by kernel_rfl) (by kernel_rfl) (fun _ _ _ h => h) (Or.inr ⟨by rfl, rfl⟩) (by assumption) ?_
            try simp only [Act.put, List.getElem_toArray, List.getElem_cons_zero, List.getElem_cons_succ, List.setIfInBounds_toArray, List.set_cons_zero, List.set_cons_succ]
            refine wpAnyH_take (i := 13) (v := undef) rfl (by kernel_rfl) (by kernel_rfl) (by kernel_rfl) (fun _ _ _ h => h) (Or.inr ⟨by rfl, rfl⟩) (by assumption) ?_
            try simp only [Act.put, List.getElem_toArray, List.getElem_cons_zero, List.getElem_cons_succ, List.setIfInBounds_toArray, List.set_cons_zero, List.set_cons_succ]
            refine wpAnyH_take (i := 14) (v := undef) rfl (by kernel_rfl) (by kernel_rfl) (by kernel_rfl) (fun _ _ _ h => h) (Or.inr ⟨by rfl, rfl⟩) (by assumption) ?_
            try simp only [Act.put, List.getElem_toArray, List.getElem_cons_zero, List.getElem_cons_succ, List.setIfInBounds_toArray, List.set_cons_zero, List.set_cons_succ]
            refine wpAnyH_take (i := 15) (v := undef) rfl (by kernel_rfl) (by kernel_rfl) (by kernel_rfl) (fun _ _ _ h => h) (Or.inr ⟨by rfl, rfl⟩) (by assumption) ?_
            try simp only [Act.put, List.getElem_toArray, List.getElem_cons_zero, List.getElem_cons_succ, List.setIfInBounds_toArray, List.set_cons_zero, List.set_cons_succ]
            refine wpAnyH_take (i := 16) (v := undef) rfl (by kernel_rfl) (by kernel_rfl) (by kernel_rfl) (fun _ _ _ h => h) (Or.inr ⟨by rfl, rfl⟩) (by assumption) ?_
            try simp only [Act.put, List.getElem_toArray, List.getElem_cons_zero, List.getElem_cons_succ, List.setIfInBounds_toArray, List.set_cons_zero, List.set_cons_succ]
            refine wpAnyH_take (i := 17) (v := ?_) rfl (by kernel_rfl) (by kernel_rfl) (by kernel_rfl) (fun _ _ _ h => h) (Or.inl ⟨by rfl, ?_⟩) (by assumption) ?_
            rotate_left
            first | (focus ((intro w hSw; (try dsimp only at hSw); go_simp); (try with_reducible rfl); done)) | fail
            try simp only [Act.put, List.getElem_toArray, List.getElem_cons_zero, List.getElem_cons_succ, List.setIfInBounds_toArray, List.set_cons_zero, List.set_cons_succ]
            refine wpAnyH_take (i := 18) (v := ?_) rfl (by kernel_rfl) (by kernel_rfl) (by kernel_rfl) (fun _ _ _ h => h) (Or.inl ⟨by rfl, ?_⟩) (by assumption) ?_
            rotate_left
            first | (focus ((intro w hSw; (try dsimp only at hSw); go_simp); (try with_reducible rfl); done)) | fail
            try simp only [Act.put, List.getElem_toArray, List.getElem_cons_zero, List.getElem_cons_succ, List.setIfInBounds_toArray, List.set_cons_zero, List.set_cons_succ]
            refine wpAnyH_take (i := 19) (v := undef) rfl (by kernel_rfl) (by kernel_rfl) (by kernel_rfl) (fun _ _ _ h => h) (Or.inr ⟨by rfl, rfl⟩) (by assumption) ?_
            try simp only [Act.put, List.getElem_toArray, List.getElem_cons_zero, List.getElem_cons_succ, List.setIfInBounds_toArray, List.set_cons_zero, List.set_cons_succ]
            refine wpAnyH_take (i := 20) (v := undef) rfl (by kernel_rfl) (by kernel_rfl) (by kernel_rfl) (fun _ _ _ h => h) (Or.inr ⟨by rfl, rfl⟩) (by assumption) ?_
            try simp only [Act.put, List.getElem_toArray, List.getElem_cons_zero, List.getElem_cons_succ, List.setIfInBounds_toArray, List.set_cons_zero, List.set_cons_succ]
            refine wpAnyH_take (i := 21) (v := undef) rfl (by kernel_rfl) (by kernel_rfl) (by kernel_rfl) (fun _ _ _ h => h) (Or.inr ⟨by rfl, rfl⟩) (by assumption) ?_
            try simp only [Act.put, List.getElem_toArray, List.getElem_cons_zero, List.getElem_cons_succ, List.setIfInBounds_toArray, List.set_cons_zero, List.set_cons_succ]
            refine wpAnyH_take (i := 22) (v := undef) rfl (by kernel_rfl) (by kernel_rfl) (by kernel_rfl) (fun _ _ _ h => h) (Or.inr ⟨by rfl, rfl⟩) (by assumption) ?_
            try simp only [Act.put, List.getElem_toArray, List.getElem_cons_zero, List.getElem_cons_succ, List.setIfInBounds_toArray, List.set_cons_zero, List.set_cons_succ]
            refine wpAnyH_take (i := 23) (v := undef) rfl (by kernel_rfl) (by kernel_rfl) (by kernel_rfl) (fun _ _ _ h => h) (Or.inr ⟨by rfl, rfl⟩) (by assumption) ?_
            try simp only [Act.put, List.getElem_toArray, List.getElem_cons_zero, List.getElem_cons_succ, List.setIfInBounds_toArray, List.set_cons_zero, List.set_cons_succ]
            refine wpAnyH_take (i := 24) (v := undef) rfl (by kernel_rfl) (by kernel_rfl) (by kernel_rfl) (fun _ _ _ h => h) (Or.inr ⟨by rfl, rfl⟩) (by assumption) ?_
            try simp only [Act.put, List.getElem_toArray, List.getElem_cons_zero, List.getElem_cons_succ, List.setIfInBounds_toArray, List.set_cons_zero, List.set_cons_succ]
            refine wpAnyH_take (i := 25) (v := undef) rfl (by kernel_rfl) (by kernel_rfl) (by kernel_rfl) (fun _ _ _ h => h) (Or.inr ⟨by rfl, rfl⟩) (by assumption) ?_
            try simp only [Act.put, List.getElem_toArray, List.getElem_cons_zero, List.getElem_cons_succ, List.setIfInBounds_toArray, List.set_cons_zero, List.set_cons_succ]
            refine wpAnyH_take (i := 26) (v := undef) rfl (by kernel_rfl) (by kernel_rfl) (by kernel_rfl) (fun _ _ _ h => h) (Or.inr ⟨by rfl, rfl⟩) (by assumption) ?_
            try simp only [Act.put, List.getElem_toArray, List.getElem_cons_zero, List.getElem_cons_succ, List.setIfInBounds_toArray, List.set_cons_zero, List.set_cons_succ]
            refine wpAnyH_take (i := 27) (v := undef) rfl (by kernel_rfl) (by kernel_rfl) (by kernel_rfl) (fun _ _ _ h => h) (Or.inr ⟨by rfl, rfl⟩) (by assumption) ?_
            try simp only [Act.put, List.getElem_toArray, List.getElem_cons_zero, List.getElem_cons_succ, List.setIfInBounds_toArray, List.set_cons_zero, List.set_cons_succ]
            refine wpAnyH_take (i := 28) (v := undef) rfl (by kernel_rfl) (by kernel_rfl) (by kernel_rfl) (fun _ _ _ h => h) (Or.inr ⟨by rfl, rfl⟩) (by assumption) ?_
            try simp only [Act.put, List.getElem_toArray, List.getElem_cons_zero, List.getElem_cons_succ, List.setIfInBounds_toArray, List.set_cons_zero, List.set_cons_succ]
            refine wpAnyH_take (i := 29) (v := undef) rfl (by kernel_rfl) (by kernel_rfl) (by kernel_rfl) (fun _ _ _ h => h) (Or.inr ⟨by rfl, rfl⟩) (by assumption) ?_
            try simp only [Act.put, List.getElem_toArray, List.getElem_cons_zero, List.getElem_cons_succ, List.setIfInBounds_toArray, List.set_cons_zero, List.set_cons_succ]
            refine wpAnyH_take (i := 30) (v := undef) rfl (by kernel_rfl) (by kernel_rfl) (by kernel_rfl) (fun _ _ _ h => h) (Or.inr ⟨by rfl, rfl⟩) (by assumption) ?_
            try simp only [Act.put, List.getElem_toArray, List.getElem_cons_zero, List.getElem_cons_succ, List.setIfInBounds_toArray, List.set_cons_zero, List.set_cons_succ]
            refine wpAnyH_take (i := 31) (v := undef) rfl (by kernel_rfl) (by kernel_rfl) (by kernel_rfl) (fun _ _ _ h => h) (Or.inr ⟨by rfl, rfl⟩) (by assumption) ?_
            try simp only [Act.put, List.getElem_toArray, List.getElem_cons_zero, List.getElem_cons_succ, List.setIfInBounds_toArray, List.set_cons_zero, List.set_cons_succ]
            refine wpAnyH_take (i := 32) (v := undef) rfl (by kernel_rfl) (by kernel_rfl) (by kernel_rfl) (fun _ _ _ h => h) (Or.inr ⟨by rfl, rfl⟩) (by assumption) ?_
            try simp only [Act.put, List.getElem_toArray, List.getElem_cons_zero, List.getElem_cons_succ, List.setIfInBounds_toArray, List.set_cons_zero, List.set_cons_succ]
            refine wpAnyH_take (i := 33) (v := ?_) rfl (by kernel_rfl) (by kernel_rfl) (by kernel_rfl) (fun _ _ _ h => h) (Or.inl ⟨by rfl, ?_⟩) (by assumption) ?_
            rotate_left
            first | (focus ((intro w hSw; (try dsimp only at hSw); go_simp); (try with_reducible rfl); done)) | fail
            try simp only [Act.put, List.getElem_toArray, List.getElem_cons_zero, List.getElem_cons_succ, List.setIfInBounds_toArray, List.set_cons_zero, List.set_cons_succ]
            refine wpAnyH_done (by kernel_rfl) ?_ _
            go_wp2
            go_ret
            exact ⟨by rw [HV2.out, ovG_no HXj.out HX.out]; rfl, HEV1.out.2.2.1.drew.trans (below_of_le B5.out HEV1.out.2.2.2)⟩
          | true =>
            rw [hr] at CR
            have hr' : rightD ((x1, x2), x3) = true := hr
            clear hr
            cases hl : dLt ((p1, p2), p3) ((x1, x2), x3) with
            | false =>
              rw [hl] at CL
              have hl0 : dLt ((p1, p2), p3) ((x1, x2), x3) = false := hl
              clear hl
              have HX := Lib.hid (show okP ((o1, o2), o3) (prevAt none L (k + 1)) ((x1, x2), x3) = false from by rw [HPV.out]; unfold okP; simp only; rw [hl0, Bool.and_false, Bool.false_and])
              clear hl0 hr'
              refine wp_region_held_drew (S := (fun W => W.cell? ⟨D, 0, none⟩ = some (.int .i64 x1) ∧ W.cell? ⟨D, 1, none⟩ = some (.int .i64 x2) ∧ W.cell? ⟨D, 2, none⟩ = some (.int .i64 x3) ∧ W.cell? ⟨w.heap.size, 0, none⟩ = some (.int .i64 o1) ∧ W.cell? ⟨w.heap.size, 1, none⟩ = some (.int .i64 o2) ∧ W.cell? ⟨w.heap.size, 2, none⟩ = some (.int .i64 o3) ∧ W.cell? ⟨w.heap.size, 18, none⟩ = some (.slice (some ⟨b0, o0, none⟩) n c) ∧ W.cell? ⟨b0, o0 + k * 3, none⟩ = some (.int .i64 p1) ∧ W.cell? ⟨b0, o0 + k * 3 + 1, none⟩ = some (.int .i64 p2) ∧ W.cell? ⟨b0, o0 + k * 3 + 2, none⟩ = some (.int .i64 p3))) (by kernel_rfl) ?_ (fun hHeld => ?_)
              · (try dsimp only); exact HS.out
              refine wpAnyH_take (i := 0) (v := ?_) rfl (by kernel_rfl) (by kernel_rfl) (by kernel_rfl) (fun _ _ _ h => h) (Or.inl ⟨by rfl, ?_⟩) (by assumption) ?_
              rotate_left
              first | (focus ((intro w hSw; (try dsimp only at hSw); go_simp); (try with_reducible rfl); done)) | fail
              try simp only [Act.put, List.getElem_toArray, List.getElem_cons_zero, List.setIfInBounds_toArray, List.set_cons_zero, List.set_cons_succ]
              refine wpAnyH_ready (rs := [1]) (by kernel_rfl) (by simp) ?_
              refine AllReadyH.cons rfl (fun K hK => ?_) AllReadyH.nil
              go_simp
              refine (CR.out _).mono ?_; rintro r w5 ⟨rfl, b5⟩
              go_wp2_with fail
              refine hK.out _ _ ?_ (fun hHeld => ?_)
              · (try dsimp only); exact ⟨((below_of_le b5 hN0).cell hDl).trans hHeld.1, ((below_of_le b5 hN0).cell hDl).trans hHeld.2.1, ((below_of_le b5 hN0).cell hDl).trans hHeld.2.2.1, ((below_of_le b5 hN0).cell hEl).trans hHeld.2.2.2.1, ((below_of_le b5 hN0).cell hEl).trans hHeld.2.2.2.2.1, ((below_of_le b5 hN0).cell hEl).trans hHeld.2.2.2.2.2.1, ((below_of_le b5 hN0).cell hEl).trans hHeld.2.2.2.2.2.2.1, ((below_of_le b5 hN0).cell hbl).trans hHeld.2.2.2.2.2.2.2.1, ((below_of_le b5 hN0).cell hbl).trans hHeld.2.2.2.2.2.2.2.2.1, ((below_of_le b5 hN0).cell hbl).trans hHeld.2.2.2.2.2.2.2.2.2⟩
              clear hK K
              try simp only [Act.put, List.getElem_toArray, List.getElem_cons_zero, List.getElem_cons_succ, List.setIfInBounds_toArray, List.set_cons_zero, List.set_cons_succ]
              have B5 := Lib.hid (below_of_le b5 hN0)
              clear b5
              refine wpAnyH_take (i := 2) (v := ?_) rfl (by kernel_rfl) (by kernel_rfl) (by kernel_rfl) (fun _ _ _ h => h) (Or.inl ⟨by rfl, ?_⟩) (by assumption) ?_
              rotate_left
              first | (focus ((intro w hSw; (try dsimp only at hSw); go_simp); (try with_reducible rfl); done)) | fail
              try simp only [Act.put, List.getElem_toArray, List.getElem_cons_zero, List.getElem_cons_succ, List.setIfInBounds_toArray, List.set_cons_zero, List.set_cons_succ]
              refine wpAnyH_take (i := 3) (v := ?_) rfl (by kernel_rfl) (by kernel_rfl) (by kernel_rfl) (fun _ _ _ h => h) (Or.inl ⟨by rfl, ?_⟩) (by assumption) ?_
              rotate_left
              first | (focus ((intro w hSw; (try dsimp only at hSw); go_simp); (try with_reducible rfl); done)) | fail
              try simp only [Act.put, List.getElem_toArray, List.getElem_cons_zero, List.getElem_cons_succ, List.setIfInBounds_toArray, List.set_cons_zero, List.set_cons_succ]
              refine wpAnyH_take (i := 4) (v := ?_) rfl (by kernel_rfl) (by kernel_rfl) (by kernel_rfl) (fun _ _ _ h => h) (Or.inl ⟨by rfl, ?_⟩) (by assumption) ?_
              rotate_left
              first | (focus ((intro w hSw; (try dsimp only at hSw); go_simp); (try with_reducible rfl); done)) | fail
              try simp only [Act.put, List.getElem_toArray, List.getElem_cons_zero, List.getElem_cons_succ, List.setIfInBounds_toArray, List.set_cons_zero, List.set_cons_succ]
              refine wpAnyH_take (i := 5) (v := ?_) rfl (by kernel_rfl) (by kernel_rfl) (by kernel_rfl) (fun _ _ _ h => h) (Or.inl ⟨by rfl, ?_⟩) (by assumption) ?_
              rotate_left
              first | (focus ((intro w hSw; (try dsimp only at hSw); go_simp); (try with_reducible rfl); done)) | fail
              try simp only [Act.put, List.getElem_toArray, List.getElem_cons_zero, List.getElem_cons_succ, List.setIfInBounds_toArray, List.set_cons_zero, List.set_cons_succ]
              refine wpAnyH_take (i := 6) (v := ?_) rfl (by kernel_rfl) (by kernel_rfl) (by kernel_rfl) (fun _ _ _ h => h) (Or.inl ⟨by rfl, ?_⟩) (by assumption) ?_
              rotate_left
              first | (focus ((intro w hSw; (try dsimp only at hSw); go_simp); (try with_reducible rfl); done)) | fail
              try simp only [Act.put, List.getElem_toArray, List.getElem_cons_zero, List.getElem_cons_succ, List.setIfInBounds_toArray, List.set_cons_zero, List.set_cons_succ]
              refine wpAnyH_take (i := 7) (v := ?_) rfl (by kernel_rfl) (by kernel_rfl) (by kernel_rfl) (fun _ _ _ h => h) (Or.inl ⟨by rfl, ?_⟩) (by assumption) ?_
              rotate_left
              first | (focus ((intro w hSw; (try dsimp only at hSw); go_simp); (try with_reducible rfl); done)) | fail
              try simp only [Act.put, List.getElem_toArray, List.getElem_cons_zero, List.getElem_cons_succ, List.setIfInBounds_toArray, List.set_cons_zero, List.set_cons_succ]
              refine wpAnyH_take (i := 8) (v := ?_) rfl (by kernel_rfl) (by kernel_rfl) (by kernel_rfl) (fun _ _ _ h => h) (Or.inl ⟨by rfl, ?_⟩) (by assumption) ?_
              rotate_left
              first | (focus ((intro w hSw; (try dsimp only at hSw); go_simp); (try with_reducible rfl); done)) | fail
              try simp only [Act.put, List.getElem_toArray, List.getElem_cons_zero, List.getElem_cons_succ, List.setIfInBounds_toArray, List.set_cons_zero, List.set_cons_succ]
              refine wpAnyH_take (i := 9) (v := ?_) rfl (by kernel_rfl) (by kernel_rfl) (by kernel_rfl) (fun _ _ _ h => h) (Or.inl ⟨by rfl, ?_⟩) (by assumption) ?_
              rotate_left
              first | (focus ((intro w hSw; (try dsimp only at hSw); go_simp); (try with_reducible rfl); done)) | fail
              try simp only [Act.put, List.getElem_toArray, List.getElem_cons_zero, List.getElem_cons_succ, List.setIfInBounds_toArray, List.set_cons_zero, List.set_cons_succ]
              refine wpAnyH_take (i := 10) (v := ?_) rfl (by kernel_rfl) (by kernel_rfl) (by kernel_rfl) (fun _ _ _ h => h) (Or.inl ⟨by rfl, ?_⟩) (by assumption) ?_
              rotate_left
              first | (focus ((intro w hSw; (try dsimp only at hSw); go_simp); (try with_reducible rfl); done)) | fail
              try simp only [Act.put, List.getElem_toArray, List.getElem_cons_zero, List.getElem_cons_succ, List.setIfInBounds_toArray, List.set_cons_zero, List.set_cons_succ]
              refine wpAnyH_take (i := 11) (v := ?_) rfl (by kernel_rfl) (by kernel_rfl) (by kernel_rfl) (fun _ _ _ h => h) (Or.inl ⟨by rfl, ?_⟩) (by assumption) ?_
              rotate_left
              first | (focus ((intro w hSw; (try dsimp only at hSw); go_simp); (try with_reducible rfl); done)) | fail
              try simp only [Act.put, List.getElem_toArray, List.getElem_cons_zero, List.getElem_cons_succ, List.setIfInBounds_toArray, List.set_cons_zero, List.set_cons_succ]
              refine wpAnyH_take (i := 12) (v := ?_) rfl (by kernel_rfl) (by kernel_rfl) (by kernel_rfl) (fun _ _ _ h => h) (Or.inl ⟨by rfl, ?_⟩) (by assumption) ?_
              rotate_left
              first | (focus ((intro w hSw; (try dsimp only at hSw); go_simp); (try with_reducible rfl); done)) | fail
              try simp only [Act.put, List.getElem_toArray, List.getElem_cons_zero, List.getElem_cons_succ, List.setIfInBounds_toArray, List.set_cons_zero, List.set_cons_succ]
              refine wpAnyH_take (i := 13) (v := ?_) rfl (by kernel_rfl) (by kernel_rfl) (by kernel_rfl) (fun _ _ _ h => h) (Or.inl ⟨by rfl, ?_⟩) (by assumption) ?_
              rotate_left
              first | (focus ((intro w hSw; (try dsimp only at hSw); go_simp); (try with_reducible rfl); done)) | fail
              try simp only [Act.put, List.getElem_toArray, List.getElem_cons_zero, List.getElem_cons_succ, List.setIfInBounds_toArray, List.set_cons_zero, List.set_cons_succ]
              refine wpAnyH_ready (rs := [14]) (by kernel_rfl) (by simp) ?_
              refine AllReadyH.cons rfl (fun K hK => ?_) AllReadyH.nil
              go_simp
              refine (CL.out _).mono ?_; rintro r w6 ⟨rfl, b6⟩
              go_wp2_with fail
              refine hK.out _ _ ?_ (fun hHeld => ?_)
              · (try dsimp only); exact ⟨((below_of_le b6 (Nat.le_trans hN0 B5.out.size)).cell hDl).trans hHeld.1, ((below_of_le b6 (Nat.le_trans hN0 B5.out.size)).cell hDl).trans hHeld.2.1, ((below_of_le b6 (Nat.le_trans hN0 B5.out.size)).cell hDl).trans hHeld.2.2.1, ((below_of_le b6 (Nat.le_trans hN0 B5.out.size)).cell hEl).trans hHeld.2.2.2.1, ((below_of_le b6 (Nat.le_trans hN0 B5.out.size)).cell hEl).trans hHeld.2.2.2.2.1, ((below_of_le b6 (Nat.le_trans hN0 B5.out.size)).cell hEl).trans hHeld.2.2.2.2.2.1, ((below_of_le b6 (Nat.le_trans hN0 B5.out.size)).cell hEl).trans hHeld.2.2.2.2.2.2.1, ((below_of_le b6 (Nat.le_trans hN0 B5.out.size)).cell hbl).trans hHeld.2.2.2.2.2.2.2.1, ((below_of_le b6 (Nat.le_trans hN0 B5.out.size)).cell hbl).trans hHeld.2.2.2.2.2.2.2.2.1, ((below_of_le b6 (Nat.le_trans hN0 B5.out.size)).cell hbl).trans hHeld.2.2.2.2.2.2.2.2.2⟩
              clear hK K
              try simp only [Act.put, List.getElem_toArray, List.getElem_cons_zero, List.getElem_cons_succ, List.setIfInBounds_toArray, List.set_cons_zero, List.set_cons_succ]
              have B6 := Lib.hid (B5.out.trans (below_of_le b6 (Nat.le_trans hN0 B5.out.size)))
              clear b6
              refine wpAnyH_take (i := 15) (v := ?_) rfl (by kernel_rfl) (by kernel_rfl) (by kernel_rfl) (fun _ _ _ h => h) (Or.inl ⟨by rfl, ?_⟩) (by assumption) ?_
              rotate_left
              first | (focus ((intro w hSw; (try dsimp only at hSw); go_simp); (try with_reducible rfl); done)) | fail
              try simp only [Act.put, List.getElem_toArray, List.getElem_cons_zero, List.getElem_cons_succ, List.setIfInBounds_toArray, List.set_cons_zero, List.set_cons_succ]
              refine wpAnyH_take (i := 16) (v := ?_) rfl (by kernel_rfl) (by kernel_rfl) (by kernel_rfl) (fun _ _ _ h => h) (Or.inl ⟨by rfl, ?_⟩) (by assumption) ?_
              rotate_left
              first | (focus ((intro w hSw; (try dsimp only at hSw); go_simp); (try with_reducible rfl); done)) | fail
              try simp only [Act.put, List.getElem_toArray, List.getElem_cons_zero, List.getElem_cons_succ, List.setIfInBounds_toArray, List.set_cons_zero, List.set_cons_succ]
              refine wpAnyH_take (i := 17) (v := ?_) rfl (by kernel_rfl) (by kernel_rfl) (by kernel_rfl) (fun _ _ _ h => h) (Or.inl ⟨by rfl, ?_⟩) (by assumption) ?_
              rotate_left
              first | (focus ((intro w hSw; (try dsimp only at hSw); go_simp); (try with_reducible rfl); done)) | fail
              try simp only [Act.put, List.getElem_toArray, List.getElem_cons_zero, List.getElem_cons_succ, List.setIfInBounds_toArray, List.set_cons_zero, List.set_cons_succ]
              refine wpAnyH_take (i := 18) (v := ?_) rfl (by kernel_rfl) (by kernel_rfl) (by kernel_rfl) (fun _ _ _ h => h) (Or.inl ⟨by rfl, ?_⟩) (by assumption) ?_
              rotate_left
              first | (focus ((intro w hSw; (try dsimp only at hSw); go_simp); (try with_reducible rfl); done)) | fail
              try simp only [Act.put, List.getElem_toArray, List.getElem_cons_zero, List.getElem_cons_succ, List.setIfInBounds_toArray, List.set_cons_zero, List.set_cons_succ]
              refine wpAnyH_take (i := 19) (v := undef) rfl (by kernel_rfl) (by kernel_rfl) (by kernel_rfl) (fun _ _ _ h => h) (Or.inr ⟨by rfl, rfl⟩) (by assumption) ?_
              try simp only [Act.put, List.getElem_toArray, List.getElem_cons_zero, List.getElem_cons_succ, List.setIfInBounds_toArray, List.set_cons_zero, List.set_cons_succ]
              refine wpAnyH_take (i := 20) (v := undef) rfl (by kernel_rfl) (by kernel_rfl) (by kernel_rfl) (fun _ _ _ h => h) (Or.inr ⟨by rfl, rfl⟩) (by assumption) ?_
              try simp only [Act.put, List.getElem_toArray, List.getElem_cons_zero, List.getElem_cons_succ, List.setIfInBounds_toArray, List.set_cons_zero, List.set_cons_succ]
              refine wpAnyH_take (i := 21) (v := undef) rfl (by kernel_rfl) (by kernel_rfl) (by kernel_rfl) (fun _ _ _ h => h) (Or.inr ⟨by rfl, rfl⟩) (by assumption) ?_
              try simp only [Act.put, List.getElem_toArray, List.getElem_cons_zero, List.getElem_cons_succ, List.setIfInBounds_toArray, List.set_cons_zero, List.set_cons_succ]
              refine wpAnyH_take (i := 22) (v := undef) rfl (by kernel_rfl) (by kernel_rfl) (by kernel_rfl) (fun _ _ _ h => h) (Or.inr ⟨by rfl, rfl⟩) (by assumption) ?_
              try simp only [Act.put, List.getElem_toArray, List.getElem_cons_zero, List.getElem_cons_succ, List.setIfInBounds_toArray, List.set_cons_zero, List.set_cons_succ]
              refine wpAnyH_take (i := 23) (v := undef) rfl (by kernel_rfl) (by kernel_rfl) (by kernel_rfl) (fun _ _ _ h => h) (Or.inr ⟨by rfl, rfl⟩) (by assumption) ?_
              try simp only [Act.put, List.getElem_toArray, List.getElem_cons_zero, List.getElem_cons_succ, List.setIfInBounds_toArray, List.set_cons_zero, List.set_cons_succ]
              refine wpAnyH_take (i := 24) (v := undef) rfl (by kernel_rfl) (by kernel_rfl) (by kernel_rfl) (fun _ _ _ h => h) (Or.inr ⟨by rfl, rfl⟩) (by assumption) ?_
              try simp only [Act.put, List.getElem_toArray, List.getElem_cons_zero, List.getElem_cons_succ, List.setIfInBounds_toArray, List.set_cons_zero, List.set_cons_succ]
              refine wpAnyH_take (i := 25) (v := undef) rfl (by kernel_rfl) (by kernel_rfl) (by kernel_rfl) (fun _ _ _ h => h) (Or.inr ⟨by rfl, rfl⟩) (by assumption) ?_
              try simp only [Act.put, List.getElem_toArray, List.getElem_cons_zero, List.getElem_cons_succ, List.setIfInBounds_toArray, List.set_cons_zero, List.set_cons_succ]
              refine wpAnyH_take (i := 26) (v := undef) rfl (by kernel_rfl) (by kernel_rfl) (by kernel_rfl) (fun _ _ _ h => h) (Or.inr ⟨by rfl, rfl⟩) (by assumption) ?_
              try simp only [Act.put, List.getElem_toArray, List.getElem_cons_zero, List.getElem_cons_succ, List.setIfInBounds_toArray, List.set_cons_zero, List.set_cons_succ]
              refine wpAnyH_take (i := 27) (v := undef) rfl (by kernel_rfl) (by kernel_rfl) (by kernel_rfl) (fun _ _ _ h => h) (Or.inr ⟨by rfl, rfl⟩) (by assumption) ?_
              try simp only [Act.put, List.getElem_toArray, List.getElem_cons_zero, List.getElem_cons_succ, List.setIfInBounds_toArray, List.set_cons_zero, List.set_cons_succ]
              refine wpAnyH_take (i := 28) (v := undef) rfl (by kernel_rfl) (by kernel_rfl) (by kernel_rfl) (fun _ _ _ h => h) (Or.inr ⟨by rfl, rfl⟩) (by assumption) ?_
              try simp only [Act.put, List.getElem_toArray, List.getElem_cons_zero, List.getElem_cons_succ, List.setIfInBounds_toArray, List.set_cons_zero, List.set_cons_succ]
              refine wpAnyH_take (i := 29) (v := undef) rfl (by kernel_rfl) (by kernel_rfl) (by kernel_rfl) (fun _ _ _ h => h) (Or.inr ⟨by rfl, rfl⟩) (by assumption) ?_
              try simp only [Act.put, List.getElem_toArray, List.getElem_cons_zero, List.getElem_cons_succ, List.setIfInBounds_toArray, List.set_cons_zero, List.set_cons_succ]
              refine wpAnyH_take (i := 30) (v := undef) rfl (by kernel_rfl) (by kernel_rfl) (by kernel_rfl) (fun _ _ _ h => h) (Or.inr ⟨by rfl, rfl⟩) (by assumption) ?_
              try simp only [Act.put, List.getElem_toArray, List.getElem_cons_zero, List.getElem_cons_succ, List.setIfInBounds_toArray, List.set_cons_zero, List.set_cons_succ]
              refine wpAnyH_take (i := 31) (v := undef) rfl (by kernel_rfl) (by kernel_rfl) (by kernel_rfl) (fun _ _ _ h => h) (Or.inr ⟨by rfl, rfl⟩) (by assumption) ?_
              try simp only [Act.put, List.getElem_toArray, List.getElem_cons_zero, List.getElem_cons_succ, List.setIfInBounds_toArray, List.set_cons_zero, List.set_cons_succ]
              refine wpAnyH_take (i := 32) (v := undef) rfl (by kernel_rfl) (by kernel_rfl) (by kernel_rfl) (fun _ _ _ h => h) (Or.inr ⟨by rfl, rfl⟩) (by assumption) ?_
              try simp only [Act.put, List.getElem_toArray, List.getElem_cons_zero, List.getElem_cons_succ, List.setIfInBounds_toArray, List.set_cons_zero, List.set_cons_succ]
              refine wpAnyH_take (i := 33) (v := ?_) rfl (by kernel_rfl) (by kernel_rfl) (by kernel_rfl) (fun _ _ _ h => h) (Or.inl ⟨by rfl, ?_⟩) (by assumption) ?_
              rotate_left
              first | (focus ((intro w hSw; (try dsimp only at hSw); go_simp); (try with_reducible rfl); done)) | fail
              try simp only [Act.put, List.getElem_toArray, List.getElem_cons_zero, List.getElem_cons_succ, List.setIfInBounds_toArray, List.set_cons_zero, List.set_cons_succ]
              refine wpAnyH_done (by kernel_rfl) ?_ _
              go_wp2
              go_ret
              exact ⟨by rw [HV2.out, ovG_no HXj.out HX.out]; rfl, HEV1.out.2.2.1.drew.trans (below_of_le B6.out HEV1.out.2.2.2)⟩
            | true =>
              rw [hl] at CL
              have hl0 : dLt ((p1, p2), p3) ((x1, x2), x3) = true := hl
              clear hl
              by_cases hq : x1 = o1 ∧ x2 = o2
              · have hEq : ∀ w : World, (binOp .eql 48 (.agg #[.int .i64 x1, .int .i64 x2]) (.agg #[.int .i64 o1, .int .i64 o2])).run Tryz.prog w = .ok (.bool true) w := fun w => by have h := eql_act x1 x2 o1 o2 w; unfold actV at h; rw [decide_eq_true hq] at h; exact h
                have hq1 : decide (((x1, x2) : Ac) = (o1, o2)) = true := decide_eq_true (Prod.ext hq.1 hq.2)
                clear hq
                by_cases hs : o3 ≤ x3
                · have hs1 : decide (o3 ≤ x3) = true := decide_eq_true hs
                  have HX := Lib.hid (show okP ((o1, o2), o3) (prevAt none L (k + 1)) ((x1, x2), x3) = false from by rw [HPV.out]; unfold okP; simp only; rw [hr', hq1, hl0, hs1]; rfl)
                  clear hq1 hr' hl0
                  refine wp_region_held_drew (S := (fun W => W.cell? ⟨D, 0, none⟩ = some (.int .i64 x1) ∧ W.cell? ⟨D, 1, none⟩ = some (.int .i64 x2) ∧ W.cell? ⟨D, 2, none⟩ = some (.int .i64 x3) ∧ W.cell? ⟨w.heap.size, 0, none⟩ = some (.int .i64 o1) ∧ W.cell? ⟨w.heap.size, 1, none⟩ = some (.int .i64 o2) ∧ W.cell? ⟨w.heap.size, 2, none⟩ = some (.int .i64 o3) ∧ W.cell? ⟨w.heap.size, 18, none⟩ = some (.slice (some ⟨b0, o0, none⟩) n c) ∧ W.cell? ⟨b0, o0 + k * 3, none⟩ = some (.int .i64 p1) ∧ W.cell? ⟨b0, o0 + k * 3 + 1, none⟩ = some (.int .i64 p2) ∧ W.cell? ⟨b0, o0 + k * 3 + 2, none⟩ = some (.int .i64 p3))) (by kernel_rfl) ?_ (fun hHeld => ?_)
                  · (try dsimp only); exact HS.out
                  refine wpAnyH_take (i := 0) (v := ?_) rfl (by kernel_rfl) (by kernel_rfl) (by kernel_rfl) (fun _ _ _ h => h) (Or.inl ⟨by rfl, ?_⟩) (by assumption) ?_
                  rotate_left
                  first | (focus ((intro w hSw; (try dsimp only at hSw); go_simp); (try with_reducible rfl); done)) | fail
                  try simp only [Act.put, List.getElem_toArray, List.getElem_cons_zero, List.setIfInBounds_toArray, List.set_cons_zero, List.set_cons_succ]
                  refine wpAnyH_ready (rs := [1]) (by kernel_rfl) (by simp) ?_
                  refine AllReadyH.cons rfl (fun K hK => ?_) AllReadyH.nil
                  go_simp
                  refine (CR.out _).mono ?_; rintro r w5 ⟨rfl, b5⟩
                  go_wp2_with fail
                  refine hK.out _ _ ?_ (fun hHeld => ?_)
                  · (try dsimp only); exact ⟨((below_of_le b5 hN0).cell hDl).trans hHeld.1, ((below_of_le b5 hN0).cell hDl).trans hHeld.2.1, ((below_of_le b5 hN0).cell hDl).trans hHeld.2.2.1, ((below_of_le b5 hN0).cell hEl).trans hHeld.2.2.2.1, ((below_of_le b5 hN0).cell hEl).trans hHeld.2.2.2.2.1, ((below_of_le b5 hN0).cell hEl).trans hHeld.2.2.2.2.2.1, ((below_of_le b5 hN0).cell hEl).trans hHeld.2.2.2.2.2.2.1, ((below_of_le b5 hN0).cell hbl).trans hHeld.2.2.2.2.2.2.2.1, ((below_of_le b5 hN0).cell hbl).trans hHeld.2.2.2.2.2.2.2.2.1, ((below_of_le b5 hN0).cell hbl).trans hHeld.2.2.2.2.2.2.2.2.2⟩
                  clear hK K
                  try simp only [Act.put, List.getElem_toArray, List.getElem_cons_zero, List.getElem_cons_succ, List.setIfInBounds_toArray, List.set_cons_zero, List.set_cons_succ]
                  have B5 := Lib.hid (below_of_le b5 hN0)
                  clear b5
                  refine wpAnyH_take (i := 2) (v := ?_) rfl (by kernel_rfl) (by kernel_rfl) (by kernel_rfl) (fun _ _ _ h => h) (Or.inl ⟨by rfl, ?_⟩) (by assumption) ?_
                  rotate_left
                  first | (focus ((intro w hSw; (try dsimp only at hSw); go_simp); (try with_reducible rfl); done)) | fail
                  try simp only [Act.put, List.getElem_toArray, List.getElem_cons_zero, List.getElem_cons_succ, List.setIfInBounds_toArray, List.set_cons_zero, List.set_cons_succ]
                  refine wpAnyH_take (i := 3) (v := ?_) rfl (by kernel_rfl) (by kernel_rfl) (by kernel_rfl) (fun _ _ _ h => h) (Or.inl ⟨by rfl, ?_⟩) (by assumption) ?_
                  rotate_left
                  first | (focus ((intro w hSw; (try dsimp only at hSw); go_simp); (try with_reducible rfl); done)) | fail
                  try simp only [Act.put, List.getElem_toArray, List.getElem_cons_zero, List.getElem_cons_succ, List.setIfInBounds_toArray, List.set_cons_zero, List.set_cons_succ]
                  refine wpAnyH_take (i := 4) (v := ?_) rfl (by kernel_rfl) (by kernel_rfl) (by kernel_rfl) (fun _ _ _ h => h) (Or.inl ⟨by rfl, ?_⟩) (by assumption) ?_
                  rotate_left
                  first | (focus ((intro w hSw; (try dsimp only at hSw); go_simp); (try with_reducible rfl); done)) | fail
                  try simp only [Act.put, List.getElem_toArray, List.getElem_cons_zero, List.getElem_cons_succ, List.setIfInBounds_toArray, List.set_cons_zero, List.set_cons_succ]
                  refine wpAnyH_take (i := 5) (v := ?_) rfl (by kernel_rfl) (by kernel_rfl) (by kernel_rfl) (fun _ _ _ h => h) (Or.inl ⟨by rfl, ?_⟩) (by assumption) ?_
                  rotate_left
                  first | (focus ((intro w hSw; (try dsimp only at hSw); go_simp); (try with_reducible rfl); done)) | fail
                  try simp only [Act.put, List.getElem_toArray, List.getElem_cons_zero, List.getElem_cons_succ, List.setIfInBounds_toArray, List.set_cons_zero, List.set_cons_succ]
                  refine wpAnyH_take (i := 6) (v := ?_) rfl (by kernel_rfl) (by kernel_rfl) (by kernel_rfl) (fun _ _ _ h => h) (Or.inl ⟨by rfl, ?_⟩) (by assumption) ?_
                  rotate_left
                  first | (focus ((intro w hSw; (try dsimp only at hSw); go_simp); (try with_reducible rfl); done)) | fail
                  try simp only [Act.put, List.getElem_toArray, List.getElem_cons_zero, List.getElem_cons_succ, List.setIfInBounds_toArray, List.set_cons_zero, List.set_cons_succ]
                  refine wpAnyH_take (i := 7) (v := ?_) rfl (by kernel_rfl) (by kernel_rfl) (by kernel_rfl) (fun _ _ _ h => h) (Or.inl ⟨by rfl, ?_⟩) (by assumption) ?_
                  rotate_left
                  first | (focus ((intro w hSw; (try dsimp only at hSw); go_simp); (try with_reducible rfl); done)) | fail
                  try simp only [Act.put, List.getElem_toArray, List.getElem_cons_zero, List.getElem_cons_succ, List.setIfInBounds_toArray, List.set_cons_zero, List.set_cons_succ]
                  refine wpAnyH_take (i := 8) (v := ?_) rfl (by kernel_rfl) (by kernel_rfl) (by kernel_rfl) (fun _ _ _ h => h) (Or.inl ⟨by rfl, ?_⟩) (by assumption) ?_
                  rotate_left
                  first | (focus ((intro w hSw; (try dsimp only at hSw); go_simp); (try with_reducible rfl); done)) | fail
                  try simp only [Act.put, List.getElem_toArray, List.getElem_cons_zero, List.getElem_cons_succ, List.setIfInBounds_toArray, List.set_cons_zero, List.set_cons_succ]
                  refine wpAnyH_take (i := 9) (v := ?_) rfl (by kernel_rfl) (by kernel_rfl) (by kernel_rfl) (fun _ _ _ h => h) (Or.inl ⟨by rfl, ?_⟩) (by assumption) ?_
                  rotate_left
                  first | (focus ((intro w hSw; (try dsimp only at hSw); go_simp); (try with_reducible rfl); done)) | fail
                  try simp only [Act.put, List.getElem_toArray, List.getElem_cons_zero, List.getElem_cons_succ, List.setIfInBounds_toArray, List.set_cons_zero, List.set_cons_succ]
                  refine wpAnyH_take (i := 10) (v := ?_) rfl (by kernel_rfl) (by kernel_rfl) (by kernel_rfl) (fun _ _ _ h => h) (Or.inl ⟨by rfl, ?_⟩) (by assumption) ?_
                  rotate_left
                  first | (focus ((intro w hSw; (try dsimp only at hSw); go_simp); (try with_reducible rfl); done)) | fail
                  try simp only [Act.put, List.getElem_toArray, List.getElem_cons_zero, List.getElem_cons_succ, List.setIfInBounds_toArray, List.set_cons_zero, List.set_cons_succ]
                  refine wpAnyH_take (i := 11) (v := ?_) rfl (by kernel_rfl) (by kernel_rfl) (by kernel_rfl) (fun _ _ _ h => h) (Or.inl ⟨by rfl, ?_⟩) (by assumption) ?_
                  rotate_left
                  first | (focus ((intro w hSw; (try dsimp only at hSw); go_simp); (try with_reducible rfl); done)) | fail
                  try simp only [Act.put, List.getElem_toArray, List.getElem_cons_zero, List.getElem_cons_succ, List.setIfInBounds_toArray, List.set_cons_zero, List.set_cons_succ]
                  refine wpAnyH_take (i := 12) (v := ?_) rfl (by kernel_rfl) (by kernel_rfl) (by kernel_rfl) (fun _ _ _ h => h) (Or.inl ⟨by rfl, ?_⟩) (by assumption) ?_
                  rotate_left
                  first | (focus ((intro w hSw; (try dsimp only at hSw); go_simp); (try with_reducible rfl); done)) | fail
                  try simp only [Act.put, List.getElem_toArray, List.getElem_cons_zero, List.getElem_cons_succ, List.setIfInBounds_toArray, List.set_cons_zero, List.set_cons_succ]
                  refine wpAnyH_take (i := 13) (v := ?_) rfl (by kernel_rfl) (by kernel_rfl) (by kernel_rfl) (fun _ _ _ h => h) (Or.inl ⟨by rfl, ?_⟩) (by assumption) ?_
                  rotate_left
                  first | (focus ((intro w hSw; (try dsimp only at hSw); go_simp); (try with_reducible rfl); done)) | fail
                  try simp only [Act.put, List.getElem_toArray, List.getElem_cons_zero, List.getElem_cons_succ, List.setIfInBounds_toArray, List.set_cons_zero, List.set_cons_succ]
                  refine wpAnyH_ready (rs := [14]) (by kernel_rfl) (by simp) ?_
                  refine AllReadyH.cons rfl (fun K hK => ?_) AllReadyH.nil
                  go_simp
                  refine (CL.out _).mono ?_; rintro r w6 ⟨rfl, b6⟩
                  go_wp2_with fail
                  refine hK.out _ _ ?_ (fun hHeld => ?_)
                  · (try dsimp only); exact ⟨((below_of_le b6 (Nat.le_trans hN0 B5.out.size)).cell hDl).trans hHeld.1, ((below_of_le b6 (Nat.le_trans hN0 B5.out.size)).cell hDl).trans hHeld.2.1, ((below_of_le b6 (Nat.le_trans hN0 B5.out.size)).cell hDl).trans hHeld.2.2.1, ((below_of_le b6 (Nat.le_trans hN0 B5.out.size)).cell hEl).trans hHeld.2.2.2.1, ((below_of_le b6 (Nat.le_trans hN0 B5.out.size)).cell hEl).trans hHeld.2.2.2.2.1, ((below_of_le b6 (Nat.le_trans hN0 B5.out.size)).cell hEl).trans hHeld.2.2.2.2.2.1, ((below_of_le b6 (Nat.le_trans hN0 B5.out.size)).cell hEl).trans hHeld.2.2.2.2.2.2.1, ((below_of_le b6 (Nat.le_trans hN0 B5.out.size)).cell hbl).trans hHeld.2.2.2.2.2.2.2.1, ((below_of_le b6 (Nat.le_trans hN0 B5.out.size)).cell hbl).trans hHeld.2.2.2.2.2.2.2.2.1, ((below_of_le b6 (Nat.le_trans hN0 B5.out.size)).cell hbl).trans hHeld.2.2.2.2.2.2.2.2.2⟩
                  clear hK K
                  try simp only [Act.put, List.getElem_toArray, List.getElem_cons_zero, List.getElem_cons_succ, List.setIfInBounds_toArray, List.set_cons_zero, List.set_cons_succ]
                  have B6 := Lib.hid (B5.out.trans (below_of_le b6 (Nat.le_trans hN0 B5.out.size)))
                  clear b6
                  refine wpAnyH_take (i := 15) (v := ?_) rfl (by kernel_rfl) (by kernel_rfl) (by kernel_rfl) (fun _ _ _ h => h) (Or.inl ⟨by rfl, ?_⟩) (by assumption) ?_
                  rotate_left
                  first | (focus ((intro w hSw; (try dsimp only at hSw); go_simp); (try with_reducible rfl); done)) | fail
                  try simp only [Act.put, List.getElem_toArray, List.getElem_cons_zero, List.getElem_cons_succ, List.setIfInBounds_toArray, List.set_cons_zero, List.set_cons_succ]
                  refine wpAnyH_take (i := 16) (v := ?_) rfl (by kernel_rfl) (by kernel_rfl) (by kernel_rfl) (fun _ _ _ h => h) (Or.inl ⟨by rfl, ?_⟩) (by assumption) ?_
                  rotate_left
                  first | (focus ((intro w hSw; (try dsimp only at hSw); go_simp); (try with_reducible rfl); done)) | fail
                  try simp only [Act.put, List.getElem_toArray, List.getElem_cons_zero, List.getElem_cons_succ, List.setIfInBounds_toArray, List.set_cons_zero, List.set_cons_succ]
                  refine wpAnyH_take (i := 17) (v := ?_) rfl (by kernel_rfl) (by kernel_rfl) (by kernel_rfl) (fun _ _ _ h => h) (Or.inl ⟨by rfl, ?_⟩) (by assumption) ?_
                  rotate_left
                  first | (focus ((intro w hSw; (try dsimp only at hSw); go_simp); (try with_reducible rfl); done)) | fail
                  try simp only [Act.put, List.getElem_toArray, List.getElem_cons_zero, List.getElem_cons_succ, List.setIfInBounds_toArray, List.set_cons_zero, List.set_cons_succ]
                  refine wpAnyH_take (i := 18) (v := ?_) rfl (by kernel_rfl) (by kernel_rfl) (by kernel_rfl) (fun _ _ _ h => h) (Or.inl ⟨by rfl, ?_⟩) (by assumption) ?_
                  rotate_left
                  first | (focus ((intro w hSw; (try dsimp only at hSw); go_simp); (try with_reducible rfl); done)) | fail
                  try simp only [Act.put, List.getElem_toArray, List.getElem_cons_zero, List.getElem_cons_succ, List.setIfInBounds_toArray, List.set_cons_zero, List.set_cons_succ]
                  refine wpAnyH_take (i := 19) (v := ?_) rfl (by kernel_rfl) (by kernel_rfl) (by kernel_rfl) (fun _ _ _ h => h) (Or.inl ⟨by rfl, ?_⟩) (by assumption) ?_
                  rotate_left
                  first | (focus ((intro w hSw; (try dsimp only at hSw); go_simp); (try with_reducible rfl); done)) | fail
                  try simp only [Act.put, List.getElem_toArray, List.getElem_cons_zero, List.getElem_cons_succ, List.setIfInBounds_toArray, List.set_cons_zero, List.set_cons_succ]
                  refine wpAnyH_take (i := 20) (v := ?_) rfl (by kernel_rfl) (by kernel_rfl) (by kernel_rfl) (fun _ _ _ h => h) (Or.inl ⟨by rfl, ?_⟩) (by assumption) ?_
                  rotate_left
                  first | (focus ((intro w hSw; (try dsimp only at hSw); go_simp); (try with_reducible rfl); done)) | fail
                  try simp only [Act.put, List.getElem_toArray, List.getElem_cons_zero, List.getElem_cons_succ, List.setIfInBounds_toArray, List.set_cons_zero, List.set_cons_succ]
                  refine wpAnyH_take (i := 21) (v := ?_) rfl (by kernel_rfl) (by kernel_rfl) (by kernel_rfl) (fun _ _ _ h => h) (Or.inl ⟨by rfl, ?_⟩) (by assumption) ?_
                  rotate_left
                  first | (focus ((intro w hSw; (try dsimp only at hSw); go_simp); (try with_reducible rfl); done)) | fail
                  try simp only [Act.put, List.getElem_toArray, List.getElem_cons_zero, List.getElem_cons_succ, List.setIfInBounds_toArray, List.set_cons_zero, List.set_cons_succ]
                  refine wpAnyH_take (i := 22) (v := ?_) rfl (by kernel_rfl) (by kernel_rfl) (by kernel_rfl) (fun _ _ _ h => h) (Or.inl ⟨by rfl, ?_⟩) (by assumption) ?_
                  rotate_left
                  first | (focus ((intro w hSw; (try dsimp only at hSw); go_simp); (try with_reducible rfl); done)) | fail
                  try simp only [Act.put, List.getElem_toArray, List.getElem_cons_zero, List.getElem_cons_succ, List.setIfInBounds_toArray, List.set_cons_zero, List.set_cons_succ]
                  refine wpAnyH_take (i := 23) (v := ?_) rfl (by kernel_rfl) (by kernel_rfl) (by kernel_rfl) (fun _ _ _ h => h) (Or.inl ⟨by rfl, ?_⟩) (by assumption) ?_
                  rotate_left
                  first | (focus ((intro w hSw; (try dsimp only at hSw); go_simp); (try with_reducible rfl); done)) | fail
                  try simp only [Act.put, List.getElem_toArray, List.getElem_cons_zero, List.getElem_cons_succ, List.setIfInBounds_toArray, List.set_cons_zero, List.set_cons_succ]
                  refine wpAnyH_take (i := 24) (v := ?_) rfl (by kernel_rfl) (by kernel_rfl) (by kernel_rfl) (fun _ _ _ h => h) (Or.inl ⟨by rfl, ?_⟩) (by assumption) ?_
                  rotate_left
                  first | (focus ((intro w hSw; (try dsimp only at hSw); go_simp); (try with_reducible rfl); done)) | fail
                  try simp only [Act.put, List.getElem_toArray, List.getElem_cons_zero, List.getElem_cons_succ, List.setIfInBounds_toArray, List.set_cons_zero, List.set_cons_succ]
                  refine wpAnyH_take (i := 25) (v := ?_) rfl (by kernel_rfl) (by kernel_rfl) (by kernel_rfl) (fun _ _ _ h => h) (Or.inl ⟨by rfl, ?_⟩) (by assumption) ?_
                  rotate_left
                  first | (focus ((intro w hSw; (try dsimp only at hSw); go_simp); (try with_reducible rfl); done)) | fail
                  try simp only [Act.put, List.getElem_toArray, List.getElem_cons_zero, List.getElem_cons_succ, List.setIfInBounds_toArray, List.set_cons_zero, List.set_cons_succ]
                  refine wpAnyH_take (i := 26) (v := ?_) rfl (by kernel_rfl) (by kernel_rfl) (by kernel_rfl) (fun _ _ _ h => h) (Or.inl ⟨by rfl, ?_⟩) (by assumption) ?_
                  rotate_left
                  first | (focus ((intro w hSw; (try dsimp only at hSw); go_simp); (try with_reducible rfl); done)) | fail
                  try simp only [Act.put, List.getElem_toArray, List.getElem_cons_zero, List.getElem_cons_succ, List.setIfInBounds_toArray, List.set_cons_zero, List.set_cons_succ]
                  refine wpAnyH_take (i := 27) (v := ?_) rfl (by kernel_rfl) (by kernel_rfl) (by kernel_rfl) (fun _ _ _ h => h) (Or.inl ⟨by rfl, ?_⟩) (by assumption) ?_
                  rotate_left
                  first | (focus ((intro w hSw; (try dsimp only at hSw); go_simp); (try with_reducible rfl); done)) | fail
                  try simp only [Act.put, List.getElem_toArray, List.getElem_cons_zero, List.getElem_cons_succ, List.setIfInBounds_toArray, List.set_cons_zero, List.set_cons_succ]
                  refine wpAnyH_take (i := 28) (v := ?_) rfl (by kernel_rfl) (by kernel_rfl) (by kernel_rfl) (fun _ _ _ h => h) (Or.inl ⟨by rfl, ?_⟩) (by assumption) ?_
                  rotate_left
                  first | (focus ((intro w hSw; (try dsimp only at hSw); go_simp); (try with_reducible rfl); done)) | fail
                  try simp only [Act.put, List.getElem_toArray, List.getElem_cons_zero, List.getElem_cons_succ, List.setIfInBounds_toArray, List.set_cons_zero, List.set_cons_succ]
                  refine wpAnyH_take (i := 29) (v := ?_) rfl (by kernel_rfl) (by kernel_rfl) (by kernel_rfl) (fun _ _ _ h => h) (Or.inl ⟨by rfl, ?_⟩) (by assumption) ?_
                  rotate_left
                  first | (focus ((intro w hSw; (try dsimp only at hSw); go_simp); (try with_reducible rfl); done)) | fail
                  try simp only [Act.put, List.getElem_toArray, List.getElem_cons_zero, List.getElem_cons_succ, List.setIfInBounds_toArray, List.set_cons_zero, List.set_cons_succ]
                  refine wpAnyH_take (i := 30) (v := ?_) rfl (by kernel_rfl) (by kernel_rfl) (by kernel_rfl) (fun _ _ _ h => h) (Or.inl ⟨by rfl, ?_⟩) (by assumption) ?_
                  rotate_left
                  first | (focus ((intro w hSw; (try dsimp only at hSw); go_simp); (try with_reducible rfl); done)) | fail
                  try simp only [Act.put, List.getElem_toArray, List.getElem_cons_zero, List.getElem_cons_succ, List.setIfInBounds_toArray, List.set_cons_zero, List.set_cons_succ]
                  refine wpAnyH_take (i := 31) (v := ?_) rfl (by kernel_rfl) (by kernel_rfl) (by kernel_rfl) (fun _ _ _ h => h) (Or.inl ⟨by rfl, ?_⟩) (by assumption) ?_
                  rotate_left
                  first | (focus ((intro w hSw; (try dsimp only at hSw); go_simp); (try with_reducible rfl); done)) | fail
                  try simp only [Act.put, List.getElem_toArray, List.getElem_cons_zero, List.getElem_cons_succ, List.setIfInBounds_toArray, List.set_cons_zero, List.set_cons_succ]
                  refine wpAnyH_take (i := 32) (v := ?_) rfl (by kernel_rfl) (by kernel_rfl) (by kernel_rfl) (fun _ _ _ h => h) (Or.inl ⟨by rfl, ?_⟩) (by assumption) ?_
                  rotate_left
                  first | (focus ((intro w hSw; (try dsimp only at hSw); go_simp); (try with_reducible rfl); done)) | fail
                  try simp only [Act.put, List.getElem_toArray, List.getElem_cons_zero, List.getElem_cons_succ, List.setIfInBounds_toArray, List.set_cons_zero, List.set_cons_succ]
                  refine wpAnyH_take (i := 33) (v := ?_) rfl (by kernel_rfl) (by kernel_rfl) (by kernel_rfl) (fun _ _ _ h => h) (Or.inl ⟨by rfl, ?_⟩) (by assumption) ?_
                  rotate_left
                  first | (focus ((intro w hSw; (try dsimp only at hSw); go_simp); (try with_reducible rfl); done)) | fail
                  try simp only [Act.put, List.getElem_toArray, List.getElem_cons_zero, List.getElem_cons_succ, List.setIfInBounds_toArray, List.set_cons_zero, List.set_cons_succ]
                  refine wpAnyH_done (by kernel_rfl) ?_ _
                  go_wp2
                  go_ret
                  exact ⟨by rw [HV2.out, ovG_no HXj.out HX.out]; rfl, HEV1.out.2.2.1.drew.trans (below_of_le B6.out HEV1.out.2.2.2)⟩
                · have hs1 : decide (o3 ≤ x3) = false := decide_eq_false hs
                  have HX := Lib.hid (show okP ((o1, o2), o3) (prevAt none L (k + 1)) ((x1, x2), x3) = true from by rw [HPV.out]; unfold okP; simp only; rw [hr', hq1, hl0, hs1]; rfl)
                  clear hq1 hr' hl0
                  refine wp_region_held_drew (S := (fun W => W.cell? ⟨D, 0, none⟩ = some (.int .i64 x1) ∧ W.cell? ⟨D, 1, none⟩ = some (.int .i64 x2) ∧ W.cell? ⟨D, 2, none⟩ = some (.int .i64 x3) ∧ W.cell? ⟨w.heap.size, 0, none⟩ = some (.int .i64 o1) ∧ W.cell? ⟨w.heap.size, 1, none⟩ = some (.int .i64 o2) ∧ W.cell? ⟨w.heap.size, 2, none⟩ = some (.int .i64 o3) ∧ W.cell? ⟨w.heap.size, 18, none⟩ = some (.slice (some ⟨b0, o0, none⟩) n c) ∧ W.cell? ⟨b0, o0 + k * 3, none⟩ = some (.int .i64 p1) ∧ W.cell? ⟨b0, o0 + k * 3 + 1, none⟩ = some (.int .i64 p2) ∧ W.cell? ⟨b0, o0 + k * 3 + 2, none⟩ = some (.int .i64 p3))) (by kernel_rfl) ?_ (fun hHeld => ?_)
                  · (try dsimp only); exact HS.out
                  refine wpAnyH_take (i := 0) (v := ?_) rfl (by kernel_rfl) (by kernel_rfl) (by kernel_rfl) (fun _ _ _ h => h) (Or.inl ⟨by rfl, ?_⟩) (by assumption) ?_
                  rotate_left
                  first | (focus ((intro w hSw; (try dsimp only at hSw); go_simp); (try with_reducible rfl); done)) | fail
                  try simp only [Act.put, List.getElem_toArray, List.getElem_cons_zero, List.setIfInBounds_toArray, List.set_cons_zero, List.set_cons_succ]
                  refine wpAnyH_ready (rs := [1]) (by kernel_rfl) (by simp) ?_
                  refine AllReadyH.cons rfl (fun K hK => ?_) AllReadyH.nil
                  go_simp
                  refine (CR.out _).mono ?_; rintro r w5 ⟨rfl, b5⟩
                  go_wp2_with fail
                  refine hK.out _ _ ?_ (fun hHeld => ?_)
                  · (try dsimp only); exact ⟨((below_of_le b5 hN0).cell hDl).trans hHeld.1, ((below_of_le b5 hN0).cell hDl).trans hHeld.2.1, ((below_of_le b5 hN0).cell hDl).trans hHeld.2.2.1, ((below_of_le b5 hN0).cell hEl).trans hHeld.2.2.2.1, ((below_of_le b5 hN0).cell hEl).trans hHeld.2.2.2.2.1, ((below_of_le b5 hN0).cell hEl).trans hHeld.2.2.2.2.2.1, ((below_of_le b5 hN0).cell hEl).trans hHeld.2.2.2.2.2.2.1, ((below_of_le b5 hN0).cell hbl).trans hHeld.2.2.2.2.2.2.2.1, ((below_of_le b5 hN0).cell hbl).trans hHeld.2.2.2.2.2.2.2.2.1, ((below_of_le b5 hN0).cell hbl).trans hHeld.2.2.2.2.2.2.2.2.2⟩
                  clear hK K
                  try simp only [Act.put, List.getElem_toArray, List.getElem_cons_zero, List.getElem_cons_succ, List.setIfInBounds_toArray, List.set_cons_zero, List.set_cons_succ]
                  have B5 := Lib.hid (below_of_le b5 hN0)
                  clear b5
                  refine wpAnyH_take (i := 2) (v := ?_) rfl (by kernel_rfl) (by kernel_rfl) (by kernel_rfl) (fun _ _ _ h => h) (Or.inl ⟨by rfl, ?_⟩) (by assumption) ?_
                  rotate_left
                  first | (focus ((intro w hSw; (try dsimp only at hSw); go_simp); (try with_reducible rfl); done)) | fail
                  try simp only [Act.put, List.getElem_toArray, List.getElem_cons_zero, List.getElem_cons_succ, List.setIfInBounds_toArray, List.set_cons_zero, List.set_cons_succ]
                  refine wpAnyH_take (i := 3) (v := ?_) rfl (by kernel_rfl) (by kernel_rfl) (by kernel_rfl) (fun _ _ _ h => h) (Or.inl ⟨by rfl, ?_⟩) (by assumption) ?_
                  rotate_left
                  first | (focus ((intro w hSw; (try dsimp only at hSw); go_simp); (try with_reducible rfl); done)) | fail
                  try simp only [Act.put, List.getElem_toArray, List.getElem_cons_zero, List.getElem_cons_succ, List.setIfInBounds_toArray, List.set_cons_zero, List.set_cons_succ]
                  refine wpAnyH_take (i := 4) (v := ?_) rfl (by kernel_rfl) (by kernel_rfl) (by kernel_rfl) (fun _ _ _ h => h) (Or.inl ⟨by rfl, ?_⟩) (by assumption) ?_
                  rotate_left
                  first | (focus ((intro w hSw; (try dsimp only at hSw); go_simp); (try with_reducible rfl); done)) | fail
                  try simp only [Act.put, List.getElem_toArray, List.getElem_cons_zero, List.getElem_cons_succ, List.setIfInBounds_toArray, List.set_cons_zero, List.set_cons_succ]
                  refine wpAnyH_take (i := 5) (v := ?_) rfl (by kernel_rfl) (by kernel_rfl) (by kernel_rfl) (fun _ _ _ h => h) (Or.inl ⟨by rfl, ?_⟩) (by assumption) ?_
                  rotate_left
                  first | (focus ((intro w hSw; (try dsimp only at hSw); go_simp); (try with_reducible rfl); done)) | fail
                  try simp only [Act.put, List.getElem_toArray, List.getElem_cons_zero, List.getElem_cons_succ, List.setIfInBounds_toArray, List.set_cons_zero, List.set_cons_succ]
                  refine wpAnyH_take (i := 6) (v := ?_) rfl (by kernel_rfl) (by kernel_rfl) (by kernel_rfl) (fun _ _ _ h => h) (Or.inl ⟨by rfl, ?_⟩) (by assumption) ?_
                  rotate_left
                  first | (focus ((intro w hSw; (try dsimp only at hSw); go_simp); (try with_reducible rfl); done)) | fail
                  try simp only [Act.put, List.getElem_toArray, List.getElem_cons_zero, List.getElem_cons_succ, List.setIfInBounds_toArray, List.set_cons_zero, List.set_cons_succ]
                  refine wpAnyH_take (i := 7) (v := ?_) rfl (by kernel_rfl) (by kernel_rfl) (by kernel_rfl) (fun _ _ _ h => h) (Or.inl ⟨by rfl, ?_⟩) (by assumption) ?_
                  rotate_left
                  first | (focus ((intro w hSw; (try dsimp only at hSw); go_simp); (try with_reducible rfl); done)) | fail
                  try simp only [Act.put, List.getElem_toArray, List.getElem_cons_zero, List.getElem_cons_succ, List.setIfInBounds_toArray, List.set_cons_zero, List.set_cons_succ]
                  refine wpAnyH_take (i := 8) (v := ?_) rfl (by kernel_rfl) (by kernel_rfl) (by kernel_rfl) (fun _ _ _ h => h) (Or.inl ⟨by rfl, ?_⟩) (by assumption) ?_
                  rotate_left
                  first | (focus ((intro w hSw; (try dsimp only at hSw); go_simp); (try with_reducible rfl); done)) | fail
                  try simp only [Act.put, List.getElem_toArray, List.getElem_cons_zero, List.getElem_cons_succ, List.setIfInBounds_toArray, List.set_cons_zero, List.set_cons_succ]
                  refine wpAnyH_take (i := 9) (v := ?_) rfl (by kernel_rfl) (by kernel_rfl) (by kernel_rfl) (fun _ _ _ h => h) (Or.inl ⟨by rfl, ?_⟩) (by assumption) ?_
                  rotate_left
                  first | (focus ((intro w hSw; (try dsimp only at hSw); go_simp); (try with_reducible rfl); done)) | fail
                  try simp only [Act.put, List.getElem_toArray, List.getElem_cons_zero, List.getElem_cons_succ, List.setIfInBounds_toArray, List.set_cons_zero, List.set_cons_succ]
                  refine wpAnyH_take (i := 10) (v := ?_) rfl (by kernel_rfl) (by kernel_rfl) (by kernel_rfl) (fun _ _ _ h => h) (Or.inl ⟨by rfl, ?_⟩) (by assumption) ?_
                  rotate_left
                  first | (focus ((intro w hSw; (try dsimp only at hSw); go_simp); (try with_reducible rfl); done)) | fail
                  try simp only [Act.put, List.getElem_toArray, List.getElem_cons_zero, List.getElem_cons_succ, List.setIfInBounds_toArray, List.set_cons_zero, List.set_cons_succ]
                  refine wpAnyH_take (i := 11) (v := ?_) rfl (by kernel_rfl) (by kernel_rfl) (by kernel_rfl) (fun _ _ _ h => h) (Or.inl ⟨by rfl, ?_⟩) (by assumption) ?_
                  rotate_left
                  first | (focus ((intro w hSw; (try dsimp only at hSw); go_simp); (try with_reducible rfl); done)) | fail
                  try simp only [Act.put, List.getElem_toArray, List.getElem_cons_zero, List.getElem_cons_succ, List.setIfInBounds_toArray, List.set_cons_zero, List.set_cons_succ]
                  refine wpAnyH_take (i := 12) (v := ?_) rfl (by kernel_rfl) (by kernel_rfl) (by kernel_rfl) (fun _ _ _ h => h) (Or.inl ⟨by rfl, ?_⟩) (by assumption) ?_
                  rotate_left
                  first | (focus ((intro w hSw; (try dsimp only at hSw); go_simp); (try with_reducible rfl); done)) | fail
                  try simp only [Act.put, List.getElem_toArray, List.getElem_cons_zero, List.getElem_cons_succ, List.setIfInBounds_toArray, List.set_cons_zero, List.set_cons_succ]
                  refine wpAnyH_take (i := 13) (v := ?_) rfl (by kernel_rfl) (by kernel_rfl) (by kernel_rfl) (fun _ _ _ h => h) (Or.inl ⟨by rfl, ?_⟩) (by assumption) ?_
                  rotate_left
                  first | (focus ((intro w hSw; (try dsimp only at hSw); go_simp); (try with_reducible rfl); done)) | fail
                  try simp only [Act.put, List.getElem_toArray, List.getElem_cons_zero, List.getElem_cons_succ, List.setIfInBounds_toArray, List.set_cons_zero, List.set_cons_succ]
                  refine wpAnyH_ready (rs := [14]) (by kernel_rfl) (by simp) ?_
                  refine AllReadyH.cons rfl (fun K hK => ?_) AllReadyH.nil
                  go_simp
                  refine (CL.out _).mono ?_; rintro r w6 ⟨rfl, b6⟩
                  go_wp2_with fail
                  refine hK.out _ _ ?_ (fun hHeld => ?_)
                  · (try dsimp only); exact ⟨((below_of_le b6 (Nat.le_trans hN0 B5.out.size)).cell hDl).trans hHeld.1, ((below_of_le b6 (Nat.le_trans hN0 B5.out.size)).cell hDl).trans hHeld.2.1, ((below_of_le b6 (Nat.le_trans hN0 B5.out.size)).cell hDl).trans hHeld.2.2.1, ((below_of_le b6 (Nat.le_trans hN0 B5.out.size)).cell hEl).trans hHeld.2.2.2.1, ((below_of_le b6 (Nat.le_trans hN0 B5.out.size)).cell hEl).trans hHeld.2.2.2.2.1, ((below_of_le b6 (Nat.le_trans hN0 B5.out.size)).cell hEl).trans hHeld.2.2.2.2.2.1, ((below_of_le b6 (Nat.le_trans hN0 B5.out.size)).cell hEl).trans hHeld.2.2.2.2.2.2.1, ((below_of_le b6 (Nat.le_trans hN0 B5.out.size)).cell hbl).trans hHeld.2.2.2.2.2.2.2.1, ((below_of_le b6 (Nat.le_trans hN0 B5.out.size)).cell hbl).trans hHeld.2.2.2.2.2.2.2.2.1, ((below_of_le b6 (Nat.le_trans hN0 B5.out.size)).cell hbl).trans hHeld.2.2.2.2.2.2.2.2.2⟩
                  clear hK K
                  try simp only [Act.put, List.getElem_toArray, List.getElem_cons_zero, List.getElem_cons_succ, List.setIfInBounds_toArray, List.set_cons_zero, List.set_cons_succ]
                  have B6 := Lib.hid (B5.out.trans (below_of_le b6 (Nat.le_trans hN0 B5.out.size)))
                  clear b6
                  refine wpAnyH_take (i := 15) (v := ?_) rfl (by kernel_rfl) (by kernel_rfl) (by kernel_rfl) (fun _ _ _ h => h) (Or.inl ⟨by rfl, ?_⟩) (by assumption) ?_
                  rotate_left
                  first | (focus ((intro w hSw; (try dsimp only at hSw); go_simp); (try with_reducible rfl); done)) | fail
                  try simp only [Act.put, List.getElem_toArray, List.getElem_cons_zero, List.getElem_cons_succ, List.setIfInBounds_toArray, List.set_cons_zero, List.set_cons_succ]
                  refine wpAnyH_take (i := 16) (v := ?_) rfl (by kernel_rfl) (by kernel_rfl) (by kernel_rfl) (fun _ _ _ h => h) (Or.inl ⟨by rfl, ?_⟩) (by assumption) ?_
                  rotate_left
                  first | (focus ((intro w hSw; (try dsimp only at hSw); go_simp); (try with_reducible rfl); done)) | fail
                  try simp only [Act.put, List.getElem_toArray, List.getElem_cons_zero, List.getElem_cons_succ, List.setIfInBounds_toArray, List.set_cons_zero, List.set_cons_succ]
                  refine wpAnyH_take (i := 17) (v := ?_) rfl (by kernel_rfl) (by kernel_rfl) (by kernel_rfl) (fun _ _ _ h => h) (Or.inl ⟨by rfl, ?_⟩) (by assumption) ?_
                  rotate_left
                  first | (focus ((intro w hSw; (try dsimp only at hSw); go_simp); (try with_reducible rfl); done)) | fail
                  try simp only [Act.put, List.getElem_toArray, List.getElem_cons_zero, List.getElem_cons_succ, List.setIfInBounds_toArray, List.set_cons_zero, List.set_cons_succ]
                  refine wpAnyH_take (i := 18) (v := ?_) rfl (by kernel_rfl) (by kernel_rfl) (by kernel_rfl) (fun _ _ _ h => h) (Or.inl ⟨by rfl, ?_⟩) (by assumption) ?_
                  rotate_left
                  first | (focus ((intro w hSw; (try dsimp only at hSw); go_simp); (try with_reducible rfl); done)) | fail
                  try simp only [Act.put, List.getElem_toArray, List.getElem_cons_zero, List.getElem_cons_succ, List.setIfInBounds_toArray, List.set_cons_zero, List.set_cons_succ]
                  refine wpAnyH_take (i := 19) (v := ?_) rfl (by kernel_rfl) (by kernel_rfl) (by kernel_rfl) (fun _ _ _ h => h) (Or.inl ⟨by rfl, ?_⟩) (by assumption) ?_
                  rotate_left
                  first | (focus ((intro w hSw; (try dsimp only at hSw); go_simp); (try with_reducible rfl); done)) | fail
                  try simp only [Act.put, List.getElem_toArray, List.getElem_cons_zero, List.getElem_cons_succ, List.setIfInBounds_toArray, List.set_cons_zero, List.set_cons_succ]
                  refine wpAnyH_take (i := 20) (v := ?_) rfl (by kernel_rfl) (by kernel_rfl) (by kernel_rfl) (fun _ _ _ h => h) (Or.inl ⟨by rfl, ?_⟩) (by assumption) ?_
                  rotate_left
                  first | (focus ((intro w hSw; (try dsimp only at hSw); go_simp); (try with_reducible rfl); done)) | fail
                  try simp only [Act.put, List.getElem_toArray, List.getElem_cons_zero, List.getElem_cons_succ, List.setIfInBounds_toArray, List.set_cons_zero, List.set_cons_succ]
                  refine wpAnyH_take (i := 21) (v := ?_) rfl (by kernel_rfl) (by kernel_rfl) (by kernel_rfl) (fun _ _ _ h => h) (Or.inl ⟨by rfl, ?_⟩) (by assumption) ?_
                  rotate_left
                  first | (focus ((intro w hSw; (try dsimp only at hSw); go_simp); (try with_reducible rfl); done)) | fail
                  try simp only [Act.put, List.getElem_toArray, List.getElem_cons_zero, List.getElem_cons_succ, List.setIfInBounds_toArray, List.set_cons_zero, List.set_cons_succ]
                  refine wpAnyH_take (i := 22) (v := ?_) rfl (by kernel_rfl) (by kernel_rfl) (by kernel_rfl) (fun _ _ _ h => h) (Or.inl ⟨by rfl, ?_⟩) (by assumption) ?_
                  rotate_left
                  first | (focus ((intro w hSw; (try dsimp only at hSw); go_simp); (try with_reducible rfl); done)) | fail
                  try simp only [Act.put, List.getElem_toArray, List.getElem_cons_zero, List.getElem_cons_succ, List.setIfInBounds_toArray, List.set_cons_zero, List.set_cons_succ]
                  refine wpAnyH_take (i := 23) (v := ?_) rfl (by kernel_rfl) (by kernel_rfl) (by kernel_rfl) (fun _ _ _ h => h) (Or.inl ⟨by rfl, ?_⟩) (by assumption) ?_
                  rotate_left
                  first | (focus ((intro w hSw; (try dsimp only at hSw); go_simp); (try with_reducible rfl); done)) | fail
                  try simp only [Act.put, List.getElem_toArray, List.getElem_cons_zero, List.getElem_cons_succ, List.setIfInBounds_toArray, List.set_cons_zero, List.set_cons_succ]
                  refine wpAnyH_take (i := 24) (v := ?_) rfl (by kernel_rfl) (by kernel_rfl) (by kernel_rfl) (fun _ _ _ h => h) (Or.inl ⟨by rfl, ?_⟩) (by assumption) ?_
                  rotate_left
                  first | (focus ((intro w hSw; (try dsimp only at hSw); go_simp); (try with_reducible rfl); done)) | fail
                  try simp only [Act.put, List.getElem_toArray, List.getElem_cons_zero, List.getElem_cons_succ, List.setIfInBounds_toArray, List.set_cons_zero, List.set_cons_succ]
                  refine wpAnyH_take (i := 25) (v := ?_) rfl (by kernel_rfl) (by kernel_rfl) (by kernel_rfl) (fun _ _ _ h => h) (Or.inl ⟨by rfl, ?_⟩) (by assumption) ?_
                  rotate_left
                  first | (focus ((intro w hSw; (try dsimp only at hSw); go_simp); (try with_reducible rfl); done)) | fail
                  try simp only [Act.put, List.getElem_toArray, List.getElem_cons_zero, List.getElem_cons_succ, List.setIfInBounds_toArray, List.set_cons_zero, List.set_cons_succ]
                  refine wpAnyH_take (i := 26) (v := ?_) rfl (by kernel_rfl) (by kernel_rfl) (by kernel_rfl) (fun _ _ _ h => h) (Or.inl ⟨by rfl, ?_⟩) (by assumption) ?_
                  rotate_left
                  first | (focus ((intro w hSw; (try dsimp only at hSw); go_simp); (try with_reducible rfl); done)) | fail
                  try simp only [Act.put, List.getElem_toArray, List.getElem_cons_zero, List.getElem_cons_succ, List.setIfInBounds_toArray, List.set_cons_zero, List.set_cons_succ]
                  refine wpAnyH_take (i := 27) (v := ?_) rfl (by kernel_rfl) (by kernel_rfl) (by kernel_rfl) (fun _ _ _ h => h) (Or.inl ⟨by rfl, ?_⟩) (by assumption) ?_
                  rotate_left
                  first | (focus ((intro w hSw; (try dsimp only at hSw); go_simp); (try with_reducible rfl); done)) | fail
                  try simp only [Act.put, List.getElem_toArray, List.getElem_cons_zero, List.getElem_cons_succ, List.setIfInBounds_toArray, List.set_cons_zero, List.set_cons_succ]
                  refine wpAnyH_take (i := 28) (v := ?_) rfl (by kernel_rfl) (by kernel_rfl) (by kernel_rfl) (fun _ _ _ h => h) (Or.inl ⟨by rfl, ?_⟩) (by assumption) ?_
                  rotate_left
                  first | (focus ((intro w hSw; (try dsimp only at hSw); go_simp); (try with_reducible rfl); done)) | fail
                  try simp only [Act.put, List.getElem_toArray, List.getElem_cons_zero, List.getElem_cons_succ, List.setIfInBounds_toArray, List.set_cons_zero, List.set_cons_succ]
                  refine wpAnyH_take (i := 29) (v := ?_) rfl (by kernel_rfl) (by kernel_rfl) (by kernel_rfl) (fun _ _ _ h => h) (Or.inl ⟨by rfl, ?_⟩) (by assumption) ?_
                  rotate_left
                  first | (focus ((intro w hSw; (try dsimp only at hSw); go_simp); (try with_reducible rfl); done)) | fail
                  try simp only [Act.put, List.getElem_toArray, List.getElem_cons_zero, List.getElem_cons_succ, List.setIfInBounds_toArray, List.set_cons_zero, List.set_cons_succ]
                  refine wpAnyH_take (i := 30) (v := ?_) rfl (by kernel_rfl) (by kernel_rfl) (by kernel_rfl) (fun _ _ _ h => h) (Or.inl ⟨by rfl, ?_⟩) (by assumption) ?_
                  rotate_left
                  first | (focus ((intro w hSw; (try dsimp only at hSw); go_simp); (try with_reducible rfl); done)) | fail
                  try simp only [Act.put, List.getElem_toArray, List.getElem_cons_zero, List.getElem_cons_succ, List.setIfInBounds_toArray, List.set_cons_zero, List.set_cons_succ]
                  refine wpAnyH_take (i := 31) (v := ?_) rfl (by kernel_rfl) (by kernel_rfl) (by kernel_rfl) (fun _ _ _ h => h) (Or.inl ⟨by rfl, ?_⟩) (by assumption) ?_
                  rotate_left
                  first | (focus ((intro w hSw; (try dsimp only at hSw); go_simp); (try with_reducible rfl); done)) | fail
                  try simp only [Act.put, List.getElem_toArray, List.getElem_cons_zero, List.getElem_cons_succ, List.setIfInBounds_toArray, List.set_cons_zero, List.set_cons_succ]
                  refine wpAnyH_take (i := 32) (v := ?_) rfl (by kernel_rfl) (by kernel_rfl) (by kernel_rfl) (fun _ _ _ h => h) (Or.inl ⟨by rfl, ?_⟩) (by assumption) ?_
                  rotate_left
                  first | (focus ((intro w hSw; (try dsimp only at hSw); go_simp); (try with_reducible rfl); done)) | fail
                  try simp only [Act.put, List.getElem_toArray, List.getElem_cons_zero, List.getElem_cons_succ, List.setIfInBounds_toArray, List.set_cons_zero, List.set_cons_succ]
                  refine wpAnyH_take (i := 33) (v := ?_) rfl (by kernel_rfl) (by kernel_rfl) (by kernel_rfl) (fun _ _ _ h => h) (Or.inl ⟨by rfl, ?_⟩) (by assumption) ?_
                  rotate_left
                  first | (focus ((intro w hSw; (try dsimp only at hSw); go_simp); (try with_reducible rfl); done)) | fail
                  try simp only [Act.put, List.getElem_toArray, List.getElem_cons_zero, List.getElem_cons_succ, List.setIfInBounds_toArray, List.set_cons_zero, List.set_cons_succ]
                  refine wpAnyH_done (by kernel_rfl) ?_ _
                  go_wp2
                  go_roundw
                  case rel => exact ⟨_, by omega, by go_num, ok_step HK.out.1 HXj.out HX.out, HEV1.out.drew.step B6.out⟩
                  case measure => simp [intOf]; omega
              · have hEq : ∀ w : World, (binOp .eql 48 (.agg #[.int .i64 x1, .int .i64 x2]) (.agg #[.int .i64 o1, .int .i64 o2])).run Tryz.prog w = .ok (.bool false) w := fun w => by have h := eql_act x1 x2 o1 o2 w; unfold actV at h; rw [decide_eq_false hq] at h; exact h
                have hq1 : decide (((x1, x2) : Ac) = (o1, o2)) = false := decide_eq_false (fun e => hq ⟨congrArg Prod.fst e, congrArg Prod.snd e⟩)
                clear hq
                have HX := Lib.hid (show okP ((o1, o2), o3) (prevAt none L (k + 1)) ((x1, x2), x3) = true from by rw [HPV.out]; unfold okP; simp only; rw [hr', hq1, hl0]; rfl)
                clear hq1 hr' hl0
                refine wp_region_held_drew (S := (fun W => W.cell? ⟨D, 0, none⟩ = some (.int .i64 x1) ∧ W.cell? ⟨D, 1, none⟩ = some (.int .i64 x2) ∧ W.cell? ⟨D, 2, none⟩ = some (.int .i64 x3) ∧ W.cell? ⟨w.heap.size, 0, none⟩ = some (.int .i64 o1) ∧ W.cell? ⟨w.heap.size, 1, none⟩ = some (.int .i64 o2) ∧ W.cell? ⟨w.heap.size, 2, none⟩ = some (.int .i64 o3) ∧ W.cell? ⟨w.heap.size, 18, none⟩ = some (.slice (some ⟨b0, o0, none⟩) n c) ∧ W.cell? ⟨b0, o0 + k * 3, none⟩ = some (.int .i64 p1) ∧ W.cell? ⟨b0, o0 + k * 3 + 1, none⟩ = some (.int .i64 p2) ∧ W.cell? ⟨b0, o0 + k * 3 + 2, none⟩ = some (.int .i64 p3))) (by kernel_rfl) ?_ (fun hHeld => ?_)
                · (try dsimp only); exact HS.out
                refine wpAnyH_take (i := 0) (v := ?_) rfl (by kernel_rfl) (by kernel_rfl) (by kernel_rfl) (fun _ _ _ h => h) (Or.inl ⟨by rfl, ?_⟩) (by assumption) ?_
                rotate_left
                first | (focus ((intro w hSw; (try dsimp only at hSw); go_simp); (try with_reducible rfl); done)) | fail
                try simp only [Act.put, List.getElem_toArray, List.getElem_cons_zero, List.setIfInBounds_toArray, List.set_cons_zero, List.set_cons_succ]
                refine wpAnyH_ready (rs := [1]) (by kernel_rfl) (by simp) ?_
                refine AllReadyH.cons rfl (fun K hK => ?_) AllReadyH.nil
                go_simp
                refine (CR.out _).mono ?_; rintro r w5 ⟨rfl, b5⟩
                go_wp2_with fail
                refine hK.out _ _ ?_ (fun hHeld => ?_)
                · (try dsimp only); exact ⟨((below_of_le b5 hN0).cell hDl).trans hHeld.1, ((below_of_le b5 hN0).cell hDl).trans hHeld.2.1, ((below_of_le b5 hN0).cell hDl).trans hHeld.2.2.1, ((below_of_le b5 hN0).cell hEl).trans hHeld.2.2.2.1, ((below_of_le b5 hN0).cell hEl).trans hHeld.2.2.2.2.1, ((below_of_le b5 hN0).cell hEl).trans hHeld.2.2.2.2.2.1, ((below_of_le b5 hN0).cell hEl).trans hHeld.2.2.2.2.2.2.1, ((below_of_le b5 hN0).cell hbl).trans hHeld.2.2.2.2.2.2.2.1, ((below_of_le b5 hN0).cell hbl).trans hHeld.2.2.2.2.2.2.2.2.1, ((below_of_le b5 hN0).cell hbl).trans hHeld.2.2.2.2.2.2.2.2.2⟩
                clear hK K
                try simp only [Act.put, List.getElem_toArray, List.getElem_cons_zero, List.getElem_cons_succ, List.setIfInBounds_toArray, List.set_cons_zero, List.set_cons_succ]
                have B5 := Lib.hid (below_of_le b5 hN0)
                clear b5
                refine wpAnyH_take (i := 2) (v := ?_) rfl (by kernel_rfl) (by kernel_rfl) (by kernel_rfl) (fun _ _ _ h => h) (Or.inl ⟨by rfl, ?_⟩) (by assumption) ?_
                rotate_left
                first | (focus ((intro w hSw; (try dsimp only at hSw); go_simp); (try with_reducible rfl); done)) | fail
                try simp only [Act.put, List.getElem_toArray, List.getElem_cons_zero, List.getElem_cons_succ, List.setIfInBounds_toArray, List.set_cons_zero, List.set_cons_succ]
                refine wpAnyH_take (i := 3) (v := ?_) rfl (by kernel_rfl) (by kernel_rfl) (by kernel_rfl) (fun _ _ _ h => h) (Or.inl ⟨by rfl, ?_⟩) (by assumption) ?_
                rotate_left
                first | (focus ((intro w hSw; (try dsimp only at hSw); go_simp); (try with_reducible rfl); done)) | fail
                try simp only [Act.put, List.getElem_toArray, List.getElem_cons_zero, List.getElem_cons_succ, List.setIfInBounds_toArray, List.set_cons_zero, List.set_cons_succ]
                refine wpAnyH_take (i := 4) (v := ?_) rfl (by kernel_rfl) (by kernel_rfl) (by kernel_rfl) (fun _ _ _ h => h) (Or.inl ⟨by rfl, ?_⟩) (by assumption) ?_
                rotate_left
                first | (focus ((intro w hSw; (try dsimp only at hSw); go_simp); (try with_reducible rfl); done)) | fail
                try simp only [Act.put, List.getElem_toArray, List.getElem_cons_zero, List.getElem_cons_succ, List.setIfInBounds_toArray, List.set_cons_zero, List.set_cons_succ]
                refine wpAnyH_take (i := 5) (v := ?_) rfl (by kernel_rfl) (by kernel_rfl) (by kernel_rfl) (fun _ _ _ h => h) (Or.inl ⟨by rfl, ?_⟩) (by assumption) ?_
                rotate_left
                first | (focus ((intro w hSw; (try dsimp only at hSw); go_simp); (try with_reducible rfl); done)) | fail
                try simp only [Act.put, List.getElem_toArray, List.getElem_cons_zero, List.getElem_cons_succ, List.setIfInBounds_toArray, List.set_cons_zero, List.set_cons_succ]
                refine wpAnyH_take (i := 6) (v := ?_) rfl (by kernel_rfl) (by kernel_rfl) (by kernel_rfl) (fun _ _ _ h => h) (Or.inl ⟨by rfl, ?_⟩) (by assumption) ?_
                rotate_left
                first | (focus ((intro w hSw; (try dsimp only at hSw); go_simp); (try with_reducible rfl); done)) | fail
                try simp only [Act.put, List.getElem_toArray, List.getElem_cons_zero, List.getElem_cons_succ, List.setIfInBounds_toArray, List.set_cons_zero, List.set_cons_succ]
                refine wpAnyH_take (i := 7) (v := ?_) rfl (by kernel_rfl) (by kernel_rfl) (by kernel_rfl) (fun _ _ _ h => h) (Or.inl ⟨by rfl, ?_⟩) (by assumption) ?_
                rotate_left
                first | (focus ((intro w hSw; (try dsimp only at hSw); go_simp); (try with_reducible rfl); done)) | fail
                try simp only [Act.put, List.getElem_toArray, List.getElem_cons_zero, List.getElem_cons_succ, List.setIfInBounds_toArray, List.set_cons_zero, List.set_cons_succ]
                refine wpAnyH_take (i := 8) (v := ?_) rfl (by kernel_rfl) (by kernel_rfl) (by kernel_rfl) (fun _ _ _ h => h) (Or.inl ⟨by rfl, ?_⟩) (by assumption) ?_
                rotate_left
                first | (focus ((intro w hSw; (try dsimp only at hSw); go_simp); (try with_reducible rfl); done)) | fail
                try simp only [Act.put, List.getElem_toArray, List.getElem_cons_zero, List.getElem_cons_succ, List.setIfInBounds_toArray, List.set_cons_zero, List.set_cons_succ]
                refine wpAnyH_take (i := 9) (v := ?_) rfl (by kernel_rfl) (by kernel_rfl) (by kernel_rfl) (fun _ _ _ h => h) (Or.inl ⟨by rfl, ?_⟩) (by assumption) ?_
                rotate_left
                first | (focus ((intro w hSw; (try dsimp only at hSw); go_simp); (try with_reducible rfl); done)) | fail
                try simp only [Act.put, List.getElem_toArray, List.getElem_cons_zero, List.getElem_cons_succ, List.setIfInBounds_toArray, List.set_cons_zero, List.set_cons_succ]
                refine wpAnyH_take (i := 10) (v := ?_) rfl (by kernel_rfl) (by kernel_rfl) (by kernel_rfl) (fun _ _ _ h => h) (Or.inl ⟨by rfl, ?_⟩) (by assumption) ?_
                rotate_left
                first | (focus ((intro w hSw; (try dsimp only at hSw); go_simp); (try with_reducible rfl); done)) | fail
                try simp only [Act.put, List.getElem_toArray, List.getElem_cons_zero, List.getElem_cons_succ, List.setIfInBounds_toArray, List.set_cons_zero, List.set_cons_succ]
                refine wpAnyH_take (i := 11) (v := ?_) rfl (by kernel_rfl) (by kernel_rfl) (by kernel_rfl) (fun _ _ _ h => h) (Or.inl ⟨by rfl, ?_⟩) (by assumption) ?_
                rotate_left
                first | (focus ((intro w hSw; (try dsimp only at hSw); go_simp); (try with_reducible rfl); done)) | fail
                try simp only [Act.put, List.getElem_toArray, List.getElem_cons_zero, List.getElem_cons_succ, List.setIfInBounds_toArray, List.set_cons_zero, List.set_cons_succ]
                refine wpAnyH_take (i := 12) (v := ?_) rfl (by kernel_rfl) (by kernel_rfl) (by kernel_rfl) (fun _ _ _ h => h) (Or.inl ⟨by rfl, ?_⟩) (by assumption) ?_
                rotate_left
                first | (focus ((intro w hSw; (try dsimp only at hSw); go_simp); (try with_reducible rfl); done)) | fail
                try simp only [Act.put, List.getElem_toArray, List.getElem_cons_zero, List.getElem_cons_succ, List.setIfInBounds_toArray, List.set_cons_zero, List.set_cons_succ]
                refine wpAnyH_take (i := 13) (v := ?_) rfl (by kernel_rfl) (by kernel_rfl) (by kernel_rfl) (fun _ _ _ h => h) (Or.inl ⟨by rfl, ?_⟩) (by assumption) ?_
                rotate_left
                first | (focus ((intro w hSw; (try dsimp only at hSw); go_simp); (try with_reducible rfl); done)) | fail
                try simp only [Act.put, List.getElem_toArray, List.getElem_cons_zero, List.getElem_cons_succ, List.setIfInBounds_toArray, List.set_cons_zero, List.set_cons_succ]
                refine wpAnyH_ready (rs := [14]) (by kernel_rfl) (by simp) ?_
                refine AllReadyH.cons rfl (fun K hK => ?_) AllReadyH.nil
                go_simp
                refine (CL.out _).mono ?_; rintro r w6 ⟨rfl, b6⟩
                go_wp2_with fail
                refine hK.out _ _ ?_ (fun hHeld => ?_)
                · (try dsimp only); exact ⟨((below_of_le b6 (Nat.le_trans hN0 B5.out.size)).cell hDl).trans hHeld.1, ((below_of_le b6 (Nat.le_trans hN0 B5.out.size)).cell hDl).trans hHeld.2.1, ((below_of_le b6 (Nat.le_trans hN0 B5.out.size)).cell hDl).trans hHeld.2.2.1, ((below_of_le b6 (Nat.le_trans hN0 B5.out.size)).cell hEl).trans hHeld.2.2.2.1, ((below_of_le b6 (Nat.le_trans hN0 B5.out.size)).cell hEl).trans hHeld.2.2.2.2.1, ((below_of_le b6 (Nat.le_trans hN0 B5.out.size)).cell hEl).trans hHeld.2.2.2.2.2.1, ((below_of_le b6 (Nat.le_trans hN0 B5.out.size)).cell hEl).trans hHeld.2.2.2.2.2.2.1, ((below_of_le b6 (Nat.le_trans hN0 B5.out.size)).cell hbl).trans hHeld.2.2.2.2.2.2.2.1, ((below_of_le b6 (Nat.le_trans hN0 B5.out.size)).cell hbl).trans hHeld.2.2.2.2.2.2.2.2.1, ((below_of_le b6 (Nat.le_trans hN0 B5.out.size)).cell hbl).trans hHeld.2.2.2.2.2.2.2.2.2⟩
                clear hK K
                try simp only [Act.put, List.getElem_toArray, List.getElem_cons_zero, List.getElem_cons_succ, List.setIfInBounds_toArray, List.set_cons_zero, List.set_cons_succ]
                have B6 := Lib.hid (B5.out.trans (below_of_le b6 (Nat.le_trans hN0 B5.out.size)))
                clear b6
                refine wpAnyH_take (i := 15) (v := ?_) rfl (by kernel_rfl) (by kernel_rfl) (by kernel_rfl) (fun _ _ _ h => h) (Or.inl ⟨by rfl, ?_⟩) (by assumption) ?_
                rotate_left
                first | (focus ((intro w hSw; (try dsimp only at hSw); go_simp); (try with_reducible rfl); done)) | fail
                try simp only [Act.put, List.getElem_toArray, List.getElem_cons_zero, List.getElem_cons_succ, List.setIfInBounds_toArray, List.set_cons_zero, List.set_cons_succ]
                refine wpAnyH_take (i := 16) (v := ?_) rfl (by kernel_rfl) (by kernel_rfl) (by kernel_rfl) (fun _ _ _ h => h) (Or.inl ⟨by rfl, ?_⟩) (by assumption) ?_
                rotate_left
                first | (focus ((intro w hSw; (try dsimp only at hSw); go_simp); (try with_reducible rfl); done)) | fail
                try simp only [Act.put, List.getElem_toArray, List.getElem_cons_zero, List.getElem_cons_succ, List.setIfInBounds_toArray, List.set_cons_zero, List.set_cons_succ]
                refine wpAnyH_take (i := 17) (v := ?_) rfl (by kernel_rfl) (by kernel_rfl) (by kernel_rfl) (fun _ _ _ h => h) (Or.inl ⟨by rfl, ?_⟩) (by assumption) ?_
                rotate_left
                first | (focus ((intro w hSw; (try dsimp only at hSw); go_simp); (try with_reducible rfl); done)) | fail
                try simp only [Act.put, List.getElem_toArray, List.getElem_cons_zero, List.getElem_cons_succ, List.setIfInBounds_toArray, List.set_cons_zero, List.set_cons_succ]
                refine wpAnyH_take (i := 18) (v := ?_) rfl (by kernel_rfl) (by kernel_rfl) (by kernel_rfl) (fun _ _ _ h => h) (Or.inl ⟨by rfl, ?_⟩) (by assumption) ?_
                rotate_left
                first | (focus ((intro w hSw; (try dsimp only at hSw); go_simp); (try with_reducible rfl); done)) | fail
                try simp only [Act.put, List.getElem_toArray, List.getElem_cons_zero, List.getElem_cons_succ, List.setIfInBounds_toArray, List.set_cons_zero, List.set_cons_succ]
                refine wpAnyH_take (i := 19) (v := ?_) rfl (by kernel_rfl) (by kernel_rfl) (by kernel_rfl) (fun _ _ _ h => h) (Or.inl ⟨by rfl, ?_⟩) (by assumption) ?_
                rotate_left
                first | (focus ((intro w hSw; (try dsimp only at hSw); go_simp); (try with_reducible rfl); done)) | fail
                try simp only [Act.put, List.getElem_toArray, List.getElem_cons_zero, List.getElem_cons_succ, List.setIfInBounds_toArray, List.set_cons_zero, List.set_cons_succ]
                refine wpAnyH_take (i := 20) (v := ?_) rfl (by kernel_rfl) (by kernel_rfl) (by kernel_rfl) (fun _ _ _ h => h) (Or.inl ⟨by rfl, ?_⟩) (by assumption) ?_
                rotate_left
                first | (focus ((intro w hSw; (try dsimp only at hSw); go_simp); (try with_reducible rfl); done)) | fail
                try simp only [Act.put, List.getElem_toArray, List.getElem_cons_zero, List.getElem_cons_succ, List.setIfInBounds_toArray, List.set_cons_zero, List.set_cons_succ]
                refine wpAnyH_take (i := 21) (v := ?_) rfl (by kernel_rfl) (by kernel_rfl) (by kernel_rfl) (fun _ _ _ h => h) (Or.inl ⟨by rfl, ?_⟩) (by assumption) ?_
                rotate_left
                first | (focus ((intro w hSw; (try dsimp only at hSw); go_simp); (try with_reducible rfl); done)) | fail
                try simp only [Act.put, List.getElem_toArray, List.getElem_cons_zero, List.getElem_cons_succ, List.setIfInBounds_toArray, List.set_cons_zero, List.set_cons_succ]
                refine wpAnyH_take (i := 22) (v := ?_) rfl (by kernel_rfl) (by kernel_rfl) (by kernel_rfl) (fun _ _ _ h => h) (Or.inl ⟨by rfl, ?_⟩) (by assumption) ?_
                rotate_left
                first | (focus ((intro w hSw; (try dsimp only at hSw); go_simp); (try with_reducible rfl); done)) | fail
                try simp only [Act.put, List.getElem_toArray, List.getElem_cons_zero, List.getElem_cons_succ, List.setIfInBounds_toArray, List.set_cons_zero, List.set_cons_succ]
                refine wpAnyH_take (i := 23) (v := ?_) rfl (by kernel_rfl) (by kernel_rfl) (by kernel_rfl) (fun _ _ _ h => h) (Or.inl ⟨by rfl, ?_⟩) (by assumption) ?_
                rotate_left
                first | (focus ((intro w hSw; (try dsimp only at hSw); go_simp); (try with_reducible rfl); done)) | fail
                try simp only [Act.put, List.getElem_toArray, List.getElem_cons_zero, List.getElem_cons_succ, List.setIfInBounds_toArray, List.set_cons_zero, List.set_cons_succ]
                refine wpAnyH_take (i := 24) (v := ?_) rfl (by kernel_rfl) (by kernel_rfl) (by kernel_rfl) (fun _ _ _ h => h) (Or.inl ⟨by rfl, ?_⟩) (by assumption) ?_
                rotate_left
                first | (focus ((intro w hSw; (try dsimp only at hSw); go_simp); (try with_reducible rfl); done)) | fail
                try simp only [Act.put, List.getElem_toArray, List.getElem_cons_zero, List.getElem_cons_succ, List.setIfInBounds_toArray, List.set_cons_zero, List.set_cons_succ]
                refine wpAnyH_take (i := 25) (v := ?_) rfl (by kernel_rfl) (by kernel_rfl) (by kernel_rfl) (fun _ _ _ h => h) (Or.inl ⟨by rfl, ?_⟩) (by assumption) ?_
                rotate_left
                first | (focus ((intro w hSw; (try dsimp only at hSw); go_simp); (try with_reducible rfl); done)) | fail
                try simp only [Act.put, List.getElem_toArray, List.getElem_cons_zero, List.getElem_cons_succ, List.setIfInBounds_toArray, List.set_cons_zero, List.set_cons_succ]
                refine wpAnyH_take (i := 26) (v := undef) rfl (by kernel_rfl) (by kernel_rfl) (by kernel_rfl) (fun _ _ _ h => h) (Or.inr ⟨by rfl, rfl⟩) (by assumption) ?_
                try simp only [Act.put, List.getElem_toArray, List.getElem_cons_zero, List.getElem_cons_succ, List.setIfInBounds_toArray, List.set_cons_zero, List.set_cons_succ]
                refine wpAnyH_take (i := 27) (v := undef) rfl (by kernel_rfl) (by kernel_rfl) (by kernel_rfl) (fun _ _ _ h => h) (Or.inr ⟨by rfl, rfl⟩) (by assumption) ?_
                try simp only [Act.put, List.getElem_toArray, List.getElem_cons_zero, List.getElem_cons_succ, List.setIfInBounds_toArray, List.set_cons_zero, List.set_cons_succ]
                refine wpAnyH_take (i := 28) (v := undef) rfl (by kernel_rfl) (by kernel_rfl) (by kernel_rfl) (fun _ _ _ h => h) (Or.inr ⟨by rfl, rfl⟩) (by assumption) ?_
                try simp only [Act.put, List.getElem_toArray, List.getElem_cons_zero, List.getElem_cons_succ, List.setIfInBounds_toArray, List.set_cons_zero, List.set_cons_succ]
                refine wpAnyH_take (i := 29) (v := undef) rfl (by kernel_rfl) (by kernel_rfl) (by kernel_rfl) (fun _ _ _ h => h) (Or.inr ⟨by rfl, rfl⟩) (by assumption) ?_
                try simp only [Act.put, List.getElem_toArray, List.getElem_cons_zero, List.getElem_cons_succ, List.setIfInBounds_toArray, List.set_cons_zero, List.set_cons_succ]
                refine wpAnyH_take (i := 30) (v := undef) rfl (by kernel_rfl) (by kernel_rfl) (by kernel_rfl) (fun _ _ _ h => h) (Or.inr ⟨by rfl, rfl⟩) (by assumption) ?_
                try simp only [Act.put, List.getElem_toArray, List.getElem_cons_zero, List.getElem_cons_succ, List.setIfInBounds_toArray, List.set_cons_zero, List.set_cons_succ]
                refine wpAnyH_take (i := 31) (v := undef) rfl (by kernel_rfl) (by kernel_rfl) (by kernel_rfl) (fun _ _ _ h => h) (Or.inr ⟨by rfl, rfl⟩) (by assumption) ?_
                try simp only [Act.put, List.getElem_toArray, List.getElem_cons_zero, List.getElem_cons_succ, List.setIfInBounds_toArray, List.set_cons_zero, List.set_cons_succ]
                refine wpAnyH_take (i := 32) (v := ?_) rfl (by kernel_rfl) (by kernel_rfl) (by kernel_rfl) (fun _ _ _ h => h) (Or.inl ⟨by rfl, ?_⟩) (by assumption) ?_
                rotate_left
                first | (focus ((intro w hSw; (try dsimp only at hSw); go_simp); (try with_reducible rfl); done)) | fail
                try simp only [Act.put, List.getElem_toArray, List.getElem_cons_zero, List.getElem_cons_succ, List.setIfInBounds_toArray, List.set_cons_zero, List.set_cons_succ]
                refine wpAnyH_take (i := 33) (v := ?_) rfl (by kernel_rfl) (by kernel_rfl) (by kernel_rfl) (fun _ _ _ h => h) (Or.inl ⟨by rfl, ?_⟩) (by assumption) ?_
                rotate_left
                first | (focus ((intro w hSw; (try dsimp only at hSw); go_simp); (try with_reducible rfl); done)) | fail
                try simp only [Act.put, List.getElem_toArray, List.getElem_cons_zero, List.getElem_cons_succ, List.setIfInBounds_toArray, List.set_cons_zero, List.set_cons_succ]
                refine wpAnyH_done (by kernel_rfl) ?_ _
                go_wp2
                go_roundw
                case rel => exact ⟨_, by omega, by go_num, ok_step HK.out.1 HXj.out HX.out, HEV1.out.drew.step B6.out⟩
                case measure => simp [intOf]; omega
      · have hX := Lib.hid (ovG_yes (p := none) (fun k x hx => HK.out.1 k x (by have := (List.getElem?_eq_some_iff.1 hx).1; have := HLn.out; omega) hx))
        go_wp2
        go_ret
        exact ⟨by rw [HV2.out, hX.out]; rfl, HK.out.2.2.2.1⟩
  · have t1 : decide ((64 : Int) < (n : Int)) = true := decide_eq_true (by omega)
    have t1n : decide (64 < n) = true := decide_eq_true (by omega)
    go_enter Tryz.func86, Tryz.ntmps86
    go_wp2
    go_ret
    exact ⟨by rw [HV.out, decide_eq_false h64]; rfl, HE.out.2.2.1⟩
end Go.Proofs.YtpakmeegldgjmaaGreat
/- Layer 20 (event): Item, Right. -/
namespace Go.Proofs.YtpakmeegldgjmaaGreat
open Go.RowKit
set_option linter.unusedVariables false
set_option linter.unusedSimpArgs false
set_option maxRecDepth 100000
attribute [local go_sem ↓] Go.wp_at_zero Go.wp_at_succ
attribute [local go_sem] bs_size bs_list bs_nil_list

theorem EV.range {N E c : Nat} {w W : World} {e : Ed} {A : Option Addr} (h : EV N w E e A c W) : W.rangeAt E 0 (evA e A c).toList := fun j v hv => by rw [Nat.zero_add, h.1.cell, ← Array.getElem?_toList]; exact hv
/-- The load of a whole event, at an operation of a plain region. -/
theorem ld_event {N E c : Nat} {w W : World} {e : Ed} {A : Option Addr} {ops : Array Oper} {rest : List Oper} {op : Oper} {a : Act} {Q : Exit → Act → World → Prop} (hg : Region.wanted op (yielded ops a.tmps) = true) (x : Operand) (ho : op.op = .load 59 x)
    (hx : a.eval x = .pointer (some ⟨E, 0, none⟩)) (hE : EV N w E e A c W) (h : wpList Tryz.prog ops Q rest (a.put op.dst (.agg #[.int .i64 e.dot.1.1, .int .i64 e.dot.1.2, .int .i64 e.dot.2, .int .i64 e.st.1, .int .i64 e.st.2.1, .int .i64 e.st.2.2, .int .i64 e.kind, .string (bs e.name), .string (bs e.dom), .string (bs e.path), .string (bs e.value), .bool e.ho, .bool e.se, .bool e.ht, .bool e.pe, .int .i64 e.exp, .int .i64 e.cre, .int .i64 e.acc, .slice A e.over.length c])) W) : wpList Tryz.prog ops Q (op :: rest) a W :=
  wpList_want hg fun K hK => wp_load_mid 59 x ho E 0 hx (evA e A c).toList _ hE.range Tryz.underlying59 rfl (by kernel_rfl) (hK _ _ h)
theorem EV.cells {N E c : Nat} {w W : World} {e : Ed} {A : Option Addr} (h : EV N w E e A c W) : W.cell? ⟨E, 0, none⟩ = some (.int .i64 e.dot.1.1) ∧ W.cell? ⟨E, 1, none⟩ = some (.int .i64 e.dot.1.2) ∧ W.cell? ⟨E, 2, none⟩ = some (.int .i64 e.dot.2) ∧ W.cell? ⟨E, 3, none⟩ = some (.int .i64 e.st.1) ∧ W.cell? ⟨E, 4, none⟩ = some (.int .i64 e.st.2.1) ∧ W.cell? ⟨E, 5, none⟩ = some (.int .i64 e.st.2.2) ∧ W.cell? ⟨E, 6, none⟩ = some (.int .i64 e.kind) ∧ W.cell? ⟨E, 18, none⟩ = some (.slice A e.over.length c) := by
  refine ⟨?_, ?_, ?_, ?_, ?_, ?_, ?_, ?_⟩
  all_goals (rw [h.1.cell]; rfl)
theorem eqIn_key0 (k : Nat) (n d p : List UInt8) (w : World) : (Op.equalIn (k + 2) 54 (.agg #[.string (bs n), .string (bs d), .string (bs p)]) (.agg #[.string ⟨#[]⟩, .string ⟨#[]⟩, .string ⟨#[]⟩])).run Tryz.prog w = .ok (decide (n = []) && decide (d = []) && decide (p = [])) w := by
  rw [run_equalIn_agg w (k + 1) _ _ _ (by kernel_rfl) (by kernel_rfl)]
  cases n <;> cases d <;> cases p <;> simp [Program.fieldsOf, Tryz.underlying54, Op.eqFields, go_sem, Tryz.underlying9]
theorem eqIn_cook0 (k : Nat) (v : List UInt8) (ho se ht pe : Bool) (exp cre acc : Int) (w : World) : (Op.equalIn (k + 2) 56 (.agg #[.string (bs v), .bool ho, .bool se, .bool ht, .bool pe, .int .i64 exp, .int .i64 cre, .int .i64 acc]) (.agg #[.string ⟨#[]⟩, .bool false, .bool false, .bool false, .bool false, .int .i64 0, .int .i64 0, .int .i64 0])).run Tryz.prog w =
    .ok (decide (v = []) && !ho && !se && !ht && !pe && decide (exp = 0) && decide (cre = 0) && decide (acc = 0)) w := by
  rw [run_equalIn_agg w (k + 1) _ _ _ (by kernel_rfl) (by kernel_rfl)]
  cases v with
  | cons x r => simp [Program.fieldsOf, Tryz.underlying56, Op.eqFields, go_sem, Tryz.underlying9, Tryz.underlying4, Tryz.underlying3]
  | nil =>
    cases ho <;> (try (simp [Program.fieldsOf, Tryz.underlying56, Op.eqFields, go_sem, Tryz.underlying9, Tryz.underlying4, Tryz.underlying3]; done))
    cases se <;> (try (simp [Program.fieldsOf, Tryz.underlying56, Op.eqFields, go_sem, Tryz.underlying9, Tryz.underlying4, Tryz.underlying3]; done))
    cases ht <;> (try (simp [Program.fieldsOf, Tryz.underlying56, Op.eqFields, go_sem, Tryz.underlying9, Tryz.underlying4, Tryz.underlying3]; done))
    cases pe <;> (try (simp [Program.fieldsOf, Tryz.underlying56, Op.eqFields, go_sem, Tryz.underlying9, Tryz.underlying4, Tryz.underlying3]; done))
    by_cases h1 : exp = 0 <;> by_cases h2 : cre = 0 <;> by_cases h3 : acc = 0 <;> simp [Program.fieldsOf, Tryz.underlying56, Op.eqFields, go_sem, Tryz.underlying9, Tryz.underlying4, Tryz.underlying3, h1, h2, h3]
theorem eql_item0 (e : Ed) (w : World) : (binOp .eql 121 (itV e) (.agg #[.string ⟨#[]⟩, .string ⟨#[]⟩, .string ⟨#[]⟩, .string ⟨#[]⟩, .bool false, .bool false, .bool false, .bool false, .int .i64 0, .int .i64 0, .int .i64 0])).run Tryz.prog w = .ok (.bool (zeroB e)) w := by
  have hk := fun w => eqIn_key0 9997 e.name e.dom e.path w
  have hc := fun w => eqIn_cook0 9997 e.value e.ho e.se e.ht e.pe e.exp e.cre e.acc w
  have hz : zeroB e = ((decide (e.name = []) && decide (e.dom = []) && decide (e.path = [])) && (decide (e.value = []) && !e.ho && !e.se && !e.ht && !e.pe && decide (e.exp = 0) && decide (e.cre = 0) && decide (e.acc = 0))) := by
    unfold zeroB
    cases decide (e.name = []) <;> cases decide (e.dom = []) <;> cases decide (e.path = []) <;> simp
  rw [hz]
  generalize (decide (e.name = []) && decide (e.dom = []) && decide (e.path = [])) = B1 at *
  generalize (decide (e.value = []) && !e.ho && !e.se && !e.ht && !e.pe && decide (e.exp = 0) && decide (e.cre = 0) && decide (e.acc = 0)) = B2 at *
  unfold itV
  rw [run_eql_struct, run_equalIn_agg w 9999 _ _ _ (by kernel_rfl) (by kernel_rfl)]
  cases B1 <;> cases B2 <;> simp [Program.fieldsOf, Tryz.underlying121, Op.eqFields, go_sem, hk, hc]
theorem item_any (e : Ed) (A : Option Addr) (c : Nat) (w : World) : Calls Tryz.prog 87 #[evV e A c] w fun r w' => r = .returned (itV e) ∧ Below w.heap.size w w' := by
  have hb : Below w.heap.size w ((w.alloc (.cells (evA e A c) 59)).alloc (.cells #[.string (bs e.name), .string (bs e.dom), .string (bs e.path), .string (bs e.value), .bool e.ho, .bool e.se, .bool e.ht, .bool e.pe, .int .i64 e.exp, .int .i64 e.cre, .int .i64 e.acc] 121)) := ((Below.refl _ _).alloc (Nat.le_refl _) _).alloc (by simp) _
  have hI := Whole.new (w.alloc (.cells (evA e A c) 59)) 121 #[.string (bs e.name), .string (bs e.dom), .string (bs e.path), .string (bs e.value), .bool e.ho, .bool e.se, .bool e.ht, .bool e.pe, .int .i64 e.exp, .int .i64 e.cre, .int .i64 e.acc]
  unfold evA at hb hI
  have HB := Lib.hid hb
  have HI := Lib.hid hI
  clear hb hI
  unfold evV itV
  go_enter Tryz.func87, Tryz.ntmps87
  go_wp2
  have x := HI.out
  simp only [World.size_alloc] at x
  generalize (w.alloc _).alloc _ = W9 at *
  have x0 : W9.cell? ⟨w.heap.size + 1, 0, none⟩ = some (.string (bs e.name)) := by rw [x.cell]; rfl
  have x1 : W9.cell? ⟨w.heap.size + 1, 1, none⟩ = some (.string (bs e.dom)) := by rw [x.cell]; rfl
  have x2 : W9.cell? ⟨w.heap.size + 1, 2, none⟩ = some (.string (bs e.path)) := by rw [x.cell]; rfl
  have x3 : W9.cell? ⟨w.heap.size + 1, 3, none⟩ = some (.string (bs e.value)) := by rw [x.cell]; rfl
  have x4 : W9.cell? ⟨w.heap.size + 1, 4, none⟩ = some (.bool e.ho) := by rw [x.cell]; rfl
  have x5 : W9.cell? ⟨w.heap.size + 1, 5, none⟩ = some (.bool e.se) := by rw [x.cell]; rfl
  have x6 : W9.cell? ⟨w.heap.size + 1, 6, none⟩ = some (.bool e.ht) := by rw [x.cell]; rfl
  have x7 : W9.cell? ⟨w.heap.size + 1, 7, none⟩ = some (.bool e.pe) := by rw [x.cell]; rfl
  have x8 : W9.cell? ⟨w.heap.size + 1, 8, none⟩ = some (.int .i64 e.exp) := by rw [x.cell]; rfl
  have x9 : W9.cell? ⟨w.heap.size + 1, 9, none⟩ = some (.int .i64 e.cre) := by rw [x.cell]; rfl
  have x10 : W9.cell? ⟨w.heap.size + 1, 10, none⟩ = some (.int .i64 e.acc) := by rw [x.cell]; rfl
  exact bodyPost_ret (v := .agg #[.string (bs e.name), .string (bs e.dom), .string (bs e.path), .string (bs e.value), .bool e.ho, .bool e.se, .bool e.ht, .bool e.pe, .int .i64 e.exp, .int .i64 e.cre, .int .i64 e.acc]) (by simp [results, Tryz.results87, go_sem, x0, x1, x2, x3, x4, x5, x6, x7, x8, x9, x10]) rfl ⟨rfl, HB.out⟩
/-- Are an event's texts short? -/
def short (e : Ed) : Prop := e.name.length ≤ 1000000 ∧ e.dom.length ≤ 1000000 ∧ e.path.length ≤ 1000000 ∧ e.value.length ≤ 1000000 ∧ e.over.length ≤ 1000000
theorem evB_eq (e : Ed) : evB e = (dotB e.dot.1.1 e.dot.1.2 e.dot.2 && stB e.st.1 e.st.2.1 e.st.2.2 && (e.st.2.2 == e.dot.1.1) && overB e.dot e.over &&
    (if e.kind = 2 then zeroB e && decide (0 < e.over.length) else if e.kind = 1 then itemB e.name e.dom e.path e.value e.pe e.exp e.cre e.acc else false)) := by
  unfold evB
  have e1 : decide (e.st.2.2 = e.dot.1.1) = (e.st.2.2 == e.dot.1.1) := by rw [Bool.eq_iff_iff]; simp
  have e2 : decide (e.over ≠ []) = decide (0 < e.over.length) := by rw [Bool.eq_iff_iff, decide_eq_true_eq, decide_eq_true_eq]; exact List.length_pos_iff.symm
  rw [e1, e2]
  rfl
set_option maxHeartbeats 4000000 in
theorem evright_no (e : Ed) (A : Option Addr) (c : Nat) (w : World) (h : MsAt w A e.over) (hs : short e) (hq : (dotB e.dot.1.1 e.dot.1.2 e.dot.2 && stB e.st.1 e.st.2.1 e.st.2.2 && (e.st.2.2 == e.dot.1.1) && overB e.dot e.over) = false) : Calls Tryz.prog 43 #[evV e A c] w fun r w' => r = .returned (.bool false) ∧ Below w.heap.size w w' := by
  have HE := Lib.hid (ev_new w e A c h)
  have CD := Lib.hid (fun w => right_any e.dot.1.1 e.dot.1.2 e.dot.2 w)
  have CS := Lib.hid (fun w => cright_any e.st.1 e.st.2.1 e.st.2.2 w)
  have CO := Lib.hid (fun (W : World) (hm : MsAt W A e.over) => over_any e A c W hm hs.2.2.2.2)
  have CI := Lib.hid (fun w => item_any e A c w)
  have CR := Lib.hid (fun w => cright14_any e w hs.1 hs.2.1 hs.2.2.1 hs.2.2.2.1)
  have hEq := fun w => eql_item0 e w
  clear h hs
  unfold dotV at CD
  unfold stV at CS
  unfold evV at CO CI ⊢
  unfold evA at HE
  unfold itV at CI CR hEq
  generalize dotB e.dot.1.1 e.dot.1.2 e.dot.2 = P1 at *
  generalize stB e.st.1 e.st.2.1 e.st.2.2 = P2 at *
  generalize overB e.dot e.over = P3 at *
  go_enter Tryz.func43, Tryz.ntmps43
  cases q1 : P1 with
  | true =>
    cases q2 : P2 with
    | true =>
      cases q3 : (e.st.2.2 == e.dot.1.1) with
      | true =>
        have t3 : (e.st.2.2 != e.dot.1.1) = false := by rw [bne, q3]; rfl
        cases q4 : P3 with
        | true =>
          rw [q1, q2, q3, q4] at hq
          cases hq
        | false =>
          go_wp2_with (refine ld_event (by rfl) _ rfl rfl HE.out ?_)
          generalize w.alloc (.cells #[.int .i64 e.dot.1.1, .int .i64 e.dot.1.2, .int .i64 e.dot.2, .int .i64 e.st.1, .int .i64 e.st.2.1, .int .i64 e.st.2.2, .int .i64 e.kind, .string (bs e.name), .string (bs e.dom), .string (bs e.path), .string (bs e.value), .bool e.ho, .bool e.se, .bool e.ht, .bool e.pe, .int .i64 e.exp, .int .i64 e.cre, .int .i64 e.acc, .slice A e.over.length c] 59) = W0 at *
          refine (CD.out _).mono ?_; rintro r w2 ⟨rfl, b2⟩
          have hE := Lib.hid (HE.out.step b2)
          clear b2 HE
          have HE := hE
          clear hE
          try clear k0 k1 k2 k3 k4 k5 k6 k18
          obtain ⟨k0, k1, k2, k3, k4, k5, k6, k18⟩ := HE.out.cells
          go_wp2_with (refine ld_event (by rfl) _ rfl rfl HE.out ?_)
          refine (CS.out _).mono ?_; rintro r w3 ⟨rfl, b3⟩
          have hE := Lib.hid (HE.out.step b3)
          clear b3 HE
          have HE := hE
          clear hE
          try clear k0 k1 k2 k3 k4 k5 k6 k18
          obtain ⟨k0, k1, k2, k3, k4, k5, k6, k18⟩ := HE.out.cells
          go_wp2_with (refine ld_event (by rfl) _ rfl rfl HE.out ?_)
          refine (CO.out _ (HE.out.2.1.more HE.out.2.2.2)).mono ?_; rintro r w4 ⟨rfl, b4⟩
          have hE := Lib.hid (HE.out.step b4)
          clear b4 HE
          have HE := hE
          clear hE
          try clear k0 k1 k2 k3 k4 k5 k6 k18
          obtain ⟨k0, k1, k2, k3, k4, k5, k6, k18⟩ := HE.out.cells
          go_wp2
          go_ret
          exact ⟨rfl, HE.out.2.2.1⟩
      | false =>
        have t3 : (e.st.2.2 != e.dot.1.1) = true := by rw [bne, q3]; rfl
        go_wp2_with (refine ld_event (by rfl) _ rfl rfl HE.out ?_)
        generalize w.alloc (.cells #[.int .i64 e.dot.1.1, .int .i64 e.dot.1.2, .int .i64 e.dot.2, .int .i64 e.st.1, .int .i64 e.st.2.1, .int .i64 e.st.2.2, .int .i64 e.kind, .string (bs e.name), .string (bs e.dom), .string (bs e.path), .string (bs e.value), .bool e.ho, .bool e.se, .bool e.ht, .bool e.pe, .int .i64 e.exp, .int .i64 e.cre, .int .i64 e.acc, .slice A e.over.length c] 59) = W0 at *
        refine (CD.out _).mono ?_; rintro r w2 ⟨rfl, b2⟩
        have hE := Lib.hid (HE.out.step b2)
        clear b2 HE
        have HE := hE
        clear hE
        try clear k0 k1 k2 k3 k4 k5 k6 k18
        obtain ⟨k0, k1, k2, k3, k4, k5, k6, k18⟩ := HE.out.cells
        go_wp2_with (refine ld_event (by rfl) _ rfl rfl HE.out ?_)
        refine (CS.out _).mono ?_; rintro r w3 ⟨rfl, b3⟩
        have hE := Lib.hid (HE.out.step b3)
        clear b3 HE
        have HE := hE
        clear hE
        try clear k0 k1 k2 k3 k4 k5 k6 k18
        obtain ⟨k0, k1, k2, k3, k4, k5, k6, k18⟩ := HE.out.cells
        go_wp2
        go_ret
        exact ⟨rfl, HE.out.2.2.1⟩
    | false =>
      go_wp2_with (refine ld_event (by rfl) _ rfl rfl HE.out ?_)
      generalize w.alloc (.cells #[.int .i64 e.dot.1.1, .int .i64 e.dot.1.2, .int .i64 e.dot.2, .int .i64 e.st.1, .int .i64 e.st.2.1, .int .i64 e.st.2.2, .int .i64 e.kind, .string (bs e.name), .string (bs e.dom), .string (bs e.path), .string (bs e.value), .bool e.ho, .bool e.se, .bool e.ht, .bool e.pe, .int .i64 e.exp, .int .i64 e.cre, .int .i64 e.acc, .slice A e.over.length c] 59) = W0 at *
      refine (CD.out _).mono ?_; rintro r w2 ⟨rfl, b2⟩
      have hE := Lib.hid (HE.out.step b2)
      clear b2 HE
      have HE := hE
      clear hE
      try clear k0 k1 k2 k3 k4 k5 k6 k18
      obtain ⟨k0, k1, k2, k3, k4, k5, k6, k18⟩ := HE.out.cells
      go_wp2_with (refine ld_event (by rfl) _ rfl rfl HE.out ?_)
      refine (CS.out _).mono ?_; rintro r w3 ⟨rfl, b3⟩
      have hE := Lib.hid (HE.out.step b3)
      clear b3 HE
      have HE := hE
      clear hE
      try clear k0 k1 k2 k3 k4 k5 k6 k18
      obtain ⟨k0, k1, k2, k3, k4, k5, k6, k18⟩ := HE.out.cells
      go_wp2
      go_ret
      exact ⟨rfl, HE.out.2.2.1⟩
  | false =>
    go_wp2_with (refine ld_event (by rfl) _ rfl rfl HE.out ?_)
    generalize w.alloc (.cells #[.int .i64 e.dot.1.1, .int .i64 e.dot.1.2, .int .i64 e.dot.2, .int .i64 e.st.1, .int .i64 e.st.2.1, .int .i64 e.st.2.2, .int .i64 e.kind, .string (bs e.name), .string (bs e.dom), .string (bs e.path), .string (bs e.value), .bool e.ho, .bool e.se, .bool e.ht, .bool e.pe, .int .i64 e.exp, .int .i64 e.cre, .int .i64 e.acc, .slice A e.over.length c] 59) = W0 at *
    refine (CD.out _).mono ?_; rintro r w2 ⟨rfl, b2⟩
    have hE := Lib.hid (HE.out.step b2)
    clear b2 HE
    have HE := hE
    clear hE
    try clear k0 k1 k2 k3 k4 k5 k6 k18
    obtain ⟨k0, k1, k2, k3, k4, k5, k6, k18⟩ := HE.out.cells
    go_wp2
    go_ret
    exact ⟨rfl, HE.out.2.2.1⟩
set_option maxHeartbeats 4000000 in
theorem evright_2 (e : Ed) (A : Option Addr) (c : Nat) (w : World) (h : MsAt w A e.over) (hs : short e) (hq : (dotB e.dot.1.1 e.dot.1.2 e.dot.2 && stB e.st.1 e.st.2.1 e.st.2.2 && (e.st.2.2 == e.dot.1.1) && overB e.dot e.over) = true) (hk : e.kind = 2) : Calls Tryz.prog 43 #[evV e A c] w fun r w' => r = .returned (.bool (zeroB e && decide (0 < e.over.length))) ∧ Below w.heap.size w w' := by
  have HE := Lib.hid (ev_new w e A c h)
  have CD := Lib.hid (fun w => right_any e.dot.1.1 e.dot.1.2 e.dot.2 w)
  have CS := Lib.hid (fun w => cright_any e.st.1 e.st.2.1 e.st.2.2 w)
  have CO := Lib.hid (fun (W : World) (hm : MsAt W A e.over) => over_any e A c W hm hs.2.2.2.2)
  have CI := Lib.hid (fun w => item_any e A c w)
  have CR := Lib.hid (fun w => cright14_any e w hs.1 hs.2.1 hs.2.2.1 hs.2.2.2.1)
  have hEq := fun w => eql_item0 e w
  clear h hs
  unfold dotV at CD
  unfold stV at CS
  unfold evV at CO CI ⊢
  unfold evA at HE
  unfold itV at CI CR hEq
  generalize dotB e.dot.1.1 e.dot.1.2 e.dot.2 = P1 at *
  generalize stB e.st.1 e.st.2.1 e.st.2.2 = P2 at *
  generalize overB e.dot e.over = P3 at *
  simp only [Bool.and_eq_true] at hq
  obtain ⟨⟨⟨q1, q2⟩, q3⟩, q4⟩ := hq
  rw [q1] at CD
  rw [q2] at CS
  rw [q4] at CO
  have t3 : (e.st.2.2 != e.dot.1.1) = false := by rw [bne, q3]; rfl
  clear q1 q2 q3 q4
  have t2 : (e.kind == 2) = true := by rw [beq_iff_eq]; exact hk
  clear hk
  generalize zeroB e = P5 at *
  go_enter Tryz.func43, Tryz.ntmps43
  go_wp2_with (refine ld_event (by rfl) _ rfl rfl HE.out ?_)
  generalize w.alloc (.cells #[.int .i64 e.dot.1.1, .int .i64 e.dot.1.2, .int .i64 e.dot.2, .int .i64 e.st.1, .int .i64 e.st.2.1, .int .i64 e.st.2.2, .int .i64 e.kind, .string (bs e.name), .string (bs e.dom), .string (bs e.path), .string (bs e.value), .bool e.ho, .bool e.se, .bool e.ht, .bool e.pe, .int .i64 e.exp, .int .i64 e.cre, .int .i64 e.acc, .slice A e.over.length c] 59) = W0 at *
  refine (CD.out _).mono ?_; rintro r w2 ⟨rfl, b2⟩
  have hE := Lib.hid (HE.out.step b2)
  clear b2 HE
  have HE := hE
  clear hE
  try clear k0 k1 k2 k3 k4 k5 k6 k18
  obtain ⟨k0, k1, k2, k3, k4, k5, k6, k18⟩ := HE.out.cells
  go_wp2_with (refine ld_event (by rfl) _ rfl rfl HE.out ?_)
  refine (CS.out _).mono ?_; rintro r w3 ⟨rfl, b3⟩
  have hE := Lib.hid (HE.out.step b3)
  clear b3 HE
  have HE := hE
  clear hE
  try clear k0 k1 k2 k3 k4 k5 k6 k18
  obtain ⟨k0, k1, k2, k3, k4, k5, k6, k18⟩ := HE.out.cells
  go_wp2_with (refine ld_event (by rfl) _ rfl rfl HE.out ?_)
  refine (CO.out _ (HE.out.2.1.more HE.out.2.2.2)).mono ?_; rintro r w4 ⟨rfl, b4⟩
  have hE := Lib.hid (HE.out.step b4)
  clear b4 HE
  have HE := hE
  clear hE
  try clear k0 k1 k2 k3 k4 k5 k6 k18
  obtain ⟨k0, k1, k2, k3, k4, k5, k6, k18⟩ := HE.out.cells
  go_wp2_with (refine ld_event (by rfl) _ rfl rfl HE.out ?_)
  refine (CI.out _).mono ?_; rintro r w5 ⟨rfl, b5⟩
  have hE := Lib.hid (HE.out.step b5)
  clear b5 HE
  have HE := hE
  clear hE
  try clear k0 k1 k2 k3 k4 k5 k6 k18
  obtain ⟨k0, k1, k2, k3, k4, k5, k6, k18⟩ := HE.out.cells
  cases P5 with
  | false =>
    go_wp2
    go_ret
    exact ⟨rfl, HE.out.2.2.1⟩
  | true =>
    cases q6 : decide (0 < e.over.length) with
    | true =>
      have t6 : decide ((0 : Int) < (e.over.length : Int)) = true := decide_eq_true (by have := of_decide_eq_true q6; omega)
      go_wp2
      go_ret
      exact ⟨by rw [q6]; rfl, HE.out.2.2.1⟩
    | false =>
      have t6 : decide ((0 : Int) < (e.over.length : Int)) = false := decide_eq_false (by have := of_decide_eq_false q6; omega)
      go_wp2
      go_ret
      exact ⟨by rw [q6]; rfl, HE.out.2.2.1⟩
set_option maxHeartbeats 4000000 in
theorem evright_1 (e : Ed) (A : Option Addr) (c : Nat) (w : World) (h : MsAt w A e.over) (hs : short e) (hq : (dotB e.dot.1.1 e.dot.1.2 e.dot.2 && stB e.st.1 e.st.2.1 e.st.2.2 && (e.st.2.2 == e.dot.1.1) && overB e.dot e.over) = true) (hk : e.kind = 1) : Calls Tryz.prog 43 #[evV e A c] w fun r w' => r = .returned (.bool (itemB e.name e.dom e.path e.value e.pe e.exp e.cre e.acc)) ∧ Below w.heap.size w w' := by
  have HE := Lib.hid (ev_new w e A c h)
  have CD := Lib.hid (fun w => right_any e.dot.1.1 e.dot.1.2 e.dot.2 w)
  have CS := Lib.hid (fun w => cright_any e.st.1 e.st.2.1 e.st.2.2 w)
  have CO := Lib.hid (fun (W : World) (hm : MsAt W A e.over) => over_any e A c W hm hs.2.2.2.2)
  have CI := Lib.hid (fun w => item_any e A c w)
  have CR := Lib.hid (fun w => cright14_any e w hs.1 hs.2.1 hs.2.2.1 hs.2.2.2.1)
  have hEq := fun w => eql_item0 e w
  clear h hs
  unfold dotV at CD
  unfold stV at CS
  unfold evV at CO CI ⊢
  unfold evA at HE
  unfold itV at CI CR hEq
  generalize dotB e.dot.1.1 e.dot.1.2 e.dot.2 = P1 at *
  generalize stB e.st.1 e.st.2.1 e.st.2.2 = P2 at *
  generalize overB e.dot e.over = P3 at *
  simp only [Bool.and_eq_true] at hq
  obtain ⟨⟨⟨q1, q2⟩, q3⟩, q4⟩ := hq
  rw [q1] at CD
  rw [q2] at CS
  rw [q4] at CO
  have t3 : (e.st.2.2 != e.dot.1.1) = false := by rw [bne, q3]; rfl
  clear q1 q2 q3 q4
  have t1 : (e.kind == 1) = true := by rw [beq_iff_eq]; exact hk
  have t2 : (e.kind == 2) = false := by rw [beq_eq_false_iff_ne, hk]; decide
  clear hk
  generalize itemB e.name e.dom e.path e.value e.pe e.exp e.cre e.acc = P4 at *
  go_enter Tryz.func43, Tryz.ntmps43
  go_wp2_with (refine ld_event (by rfl) _ rfl rfl HE.out ?_)
  generalize w.alloc (.cells #[.int .i64 e.dot.1.1, .int .i64 e.dot.1.2, .int .i64 e.dot.2, .int .i64 e.st.1, .int .i64 e.st.2.1, .int .i64 e.st.2.2, .int .i64 e.kind, .string (bs e.name), .string (bs e.dom), .string (bs e.path), .string (bs e.value), .bool e.ho, .bool e.se, .bool e.ht, .bool e.pe, .int .i64 e.exp, .int .i64 e.cre, .int .i64 e.acc, .slice A e.over.length c] 59) = W0 at *
  refine (CD.out _).mono ?_; rintro r w2 ⟨rfl, b2⟩
  have hE := Lib.hid (HE.out.step b2)
  clear b2 HE
  have HE := hE
  clear hE
  try clear k0 k1 k2 k3 k4 k5 k6 k18
  obtain ⟨k0, k1, k2, k3, k4, k5, k6, k18⟩ := HE.out.cells
  go_wp2_with (refine ld_event (by rfl) _ rfl rfl HE.out ?_)
  refine (CS.out _).mono ?_; rintro r w3 ⟨rfl, b3⟩
  have hE := Lib.hid (HE.out.step b3)
  clear b3 HE
  have HE := hE
  clear hE
  try clear k0 k1 k2 k3 k4 k5 k6 k18
  obtain ⟨k0, k1, k2, k3, k4, k5, k6, k18⟩ := HE.out.cells
  go_wp2_with (refine ld_event (by rfl) _ rfl rfl HE.out ?_)
  refine (CO.out _ (HE.out.2.1.more HE.out.2.2.2)).mono ?_; rintro r w4 ⟨rfl, b4⟩
  have hE := Lib.hid (HE.out.step b4)
  clear b4 HE
  have HE := hE
  clear hE
  try clear k0 k1 k2 k3 k4 k5 k6 k18
  obtain ⟨k0, k1, k2, k3, k4, k5, k6, k18⟩ := HE.out.cells
  go_wp2_with (refine ld_event (by rfl) _ rfl rfl HE.out ?_)
  refine (CI.out _).mono ?_; rintro r w5 ⟨rfl, b5⟩
  have hE := Lib.hid (HE.out.step b5)
  clear b5 HE
  have HE := hE
  clear hE
  try clear k0 k1 k2 k3 k4 k5 k6 k18
  obtain ⟨k0, k1, k2, k3, k4, k5, k6, k18⟩ := HE.out.cells
  go_wp2_with fail
  refine (CR.out _).mono ?_; rintro r w6 ⟨rfl, b6⟩
  have hE := Lib.hid (HE.out.step b6)
  clear b6 HE
  have HE := hE
  clear hE
  go_wp2
  go_ret
  exact ⟨rfl, HE.out.2.2.1⟩
set_option maxHeartbeats 4000000 in
theorem evright_0 (e : Ed) (A : Option Addr) (c : Nat) (w : World) (h : MsAt w A e.over) (hs : short e) (hq : (dotB e.dot.1.1 e.dot.1.2 e.dot.2 && stB e.st.1 e.st.2.1 e.st.2.2 && (e.st.2.2 == e.dot.1.1) && overB e.dot e.over) = true) (h2 : e.kind ≠ 2) (h1 : e.kind ≠ 1) : Calls Tryz.prog 43 #[evV e A c] w fun r w' => r = .returned (.bool false) ∧ Below w.heap.size w w' := by
  have HE := Lib.hid (ev_new w e A c h)
  have CD := Lib.hid (fun w => right_any e.dot.1.1 e.dot.1.2 e.dot.2 w)
  have CS := Lib.hid (fun w => cright_any e.st.1 e.st.2.1 e.st.2.2 w)
  have CO := Lib.hid (fun (W : World) (hm : MsAt W A e.over) => over_any e A c W hm hs.2.2.2.2)
  have CI := Lib.hid (fun w => item_any e A c w)
  have CR := Lib.hid (fun w => cright14_any e w hs.1 hs.2.1 hs.2.2.1 hs.2.2.2.1)
  have hEq := fun w => eql_item0 e w
  clear h hs
  unfold dotV at CD
  unfold stV at CS
  unfold evV at CO CI ⊢
  unfold evA at HE
  unfold itV at CI CR hEq
  generalize dotB e.dot.1.1 e.dot.1.2 e.dot.2 = P1 at *
  generalize stB e.st.1 e.st.2.1 e.st.2.2 = P2 at *
  generalize overB e.dot e.over = P3 at *
  simp only [Bool.and_eq_true] at hq
  obtain ⟨⟨⟨q1, q2⟩, q3⟩, q4⟩ := hq
  rw [q1] at CD
  rw [q2] at CS
  rw [q4] at CO
  have t3 : (e.st.2.2 != e.dot.1.1) = false := by rw [bne, q3]; rfl
  clear q1 q2 q3 q4
  have t1 : (e.kind == 1) = false := by rw [beq_eq_false_iff_ne]; exact h1
  have t2 : (e.kind == 2) = false := by rw [beq_eq_false_iff_ne]; exact h2
  clear h1 h2
  go_enter Tryz.func43, Tryz.ntmps43
  go_wp2_with (refine ld_event (by rfl) _ rfl rfl HE.out ?_)
  generalize w.alloc (.cells #[.int .i64 e.dot.1.1, .int .i64 e.dot.1.2, .int .i64 e.dot.2, .int .i64 e.st.1, .int .i64 e.st.2.1, .int .i64 e.st.2.2, .int .i64 e.kind, .string (bs e.name), .string (bs e.dom), .string (bs e.path), .string (bs e.value), .bool e.ho, .bool e.se, .bool e.ht, .bool e.pe, .int .i64 e.exp, .int .i64 e.cre, .int .i64 e.acc, .slice A e.over.length c] 59) = W0 at *
  refine (CD.out _).mono ?_; rintro r w2 ⟨rfl, b2⟩
  have hE := Lib.hid (HE.out.step b2)
  clear b2 HE
  have HE := hE
  clear hE
  try clear k0 k1 k2 k3 k4 k5 k6 k18
  obtain ⟨k0, k1, k2, k3, k4, k5, k6, k18⟩ := HE.out.cells
  go_wp2_with (refine ld_event (by rfl) _ rfl rfl HE.out ?_)
  refine (CS.out _).mono ?_; rintro r w3 ⟨rfl, b3⟩
  have hE := Lib.hid (HE.out.step b3)
  clear b3 HE
  have HE := hE
  clear hE
  try clear k0 k1 k2 k3 k4 k5 k6 k18
  obtain ⟨k0, k1, k2, k3, k4, k5, k6, k18⟩ := HE.out.cells
  go_wp2_with (refine ld_event (by rfl) _ rfl rfl HE.out ?_)
  refine (CO.out _ (HE.out.2.1.more HE.out.2.2.2)).mono ?_; rintro r w4 ⟨rfl, b4⟩
  have hE := Lib.hid (HE.out.step b4)
  clear b4 HE
  have HE := hE
  clear hE
  try clear k0 k1 k2 k3 k4 k5 k6 k18
  obtain ⟨k0, k1, k2, k3, k4, k5, k6, k18⟩ := HE.out.cells
  go_wp2
  go_ret
  exact ⟨rfl, HE.out.2.2.1⟩
theorem evright_any (e : Ed) (A : Option Addr) (c : Nat) (w : World) (h : MsAt w A e.over) (hs : short e) : Calls Tryz.prog 43 #[evV e A c] w fun r w' => r = .returned (.bool (evB e)) ∧ Below w.heap.size w w' := by
  rw [evB_eq]
  cases hq : (dotB e.dot.1.1 e.dot.1.2 e.dot.2 && stB e.st.1 e.st.2.1 e.st.2.2 && (e.st.2.2 == e.dot.1.1) && overB e.dot e.over) with
  | false => exact evright_no e A c w h hs hq
  | true =>
    rw [Bool.true_and]
    by_cases h2 : e.kind = 2
    · rw [if_pos h2]; exact evright_2 e A c w h hs hq h2
    · rw [if_neg h2]
      by_cases h1 : e.kind = 1
      · rw [if_pos h1]; exact evright_1 e A c w h hs hq h1
      · rw [if_neg h1]; exact evright_0 e A c w h hs hq h2 h1
end Go.Proofs.YtpakmeegldgjmaaGreat
/- Layer 20 (event): the document's Right. -/
namespace Go.Proofs.YtpakmeegldgjmaaGreat
open Go.RowKit
set_option linter.unusedVariables false
set_option linter.unusedSimpArgs false
set_option maxRecDepth 100000
attribute [local go_sem ↓] Go.wp_at_zero Go.wp_at_succ
attribute [local go_sem] bs_size bs_list bs_nil_list

theorem EV.all {N E c : Nat} {w W : World} {e : Ed} {A : Option Addr} (h : EV N w E e A c W) : W.cell? ⟨E, 0, none⟩ = some (.int .i64 e.dot.1.1) ∧ W.cell? ⟨E, 1, none⟩ = some (.int .i64 e.dot.1.2) ∧ W.cell? ⟨E, 2, none⟩ = some (.int .i64 e.dot.2) ∧ W.cell? ⟨E, 3, none⟩ = some (.int .i64 e.st.1) ∧ W.cell? ⟨E, 4, none⟩ = some (.int .i64 e.st.2.1) ∧ W.cell? ⟨E, 5, none⟩ = some (.int .i64 e.st.2.2) ∧ W.cell? ⟨E, 6, none⟩ = some (.int .i64 e.kind) ∧ W.cell? ⟨E, 7, none⟩ = some (.string (bs e.name)) ∧ W.cell? ⟨E, 8, none⟩ = some (.string (bs e.dom)) ∧ W.cell? ⟨E, 9, none⟩ = some (.string (bs e.path)) ∧ W.cell? ⟨E, 10, none⟩ = some (.string (bs e.value)) ∧ W.cell? ⟨E, 11, none⟩ = some (.bool e.ho) ∧ W.cell? ⟨E, 12, none⟩ = some (.bool e.se) ∧ W.cell? ⟨E, 13, none⟩ = some (.bool e.ht) ∧ W.cell? ⟨E, 14, none⟩ = some (.bool e.pe) ∧ W.cell? ⟨E, 15, none⟩ = some (.int .i64 e.exp) ∧ W.cell? ⟨E, 16, none⟩ = some (.int .i64 e.cre) ∧ W.cell? ⟨E, 17, none⟩ = some (.int .i64 e.acc) ∧ W.cell? ⟨E, 18, none⟩ = some (.slice A e.over.length c) := by
  refine ⟨?_, ?_, ?_, ?_, ?_, ?_, ?_, ?_, ?_, ?_, ?_, ?_, ?_, ?_, ?_, ?_, ?_, ?_, ?_⟩
  all_goals (rw [h.1.cell]; rfl)
end Go.Proofs.YtpakmeegldgjmaaGreat
/- Layer 20 (event): Put. -/
namespace Go.Proofs.YtpakmeegldgjmaaGreat
open Go.RowKit
set_option linter.unusedVariables false
set_option linter.unusedSimpArgs false
set_option maxRecDepth 100000
attribute [local go_sem ↓] Go.wp_at_zero Go.wp_at_succ
attribute [local go_sem] bs_size bs_list bs_nil_list

/-- What is told while an event is packed: the writer, the event's box, its cookie's, its Over. -/
structure PS (w0 : World) (base b : Nat) (A0 : Option Addr) (E C : Nat) (e : Ed) (Ao : Option Addr) (co : Nat) (W : World) (A : Option Addr) (c : Nat) (l : List UInt8) : Prop where
  wr : Wr W base b A c l
  ev : Whole W E 59 (evA e Ao co)
  ck : Whole W C 56 (cookC e)
  eb : E ≠ b
  cb : C ≠ b
  ea : bl A ≠ some E
  ca : bl A ≠ some C
  ov : Ds W base Ao e.over
  st : WStep w0 W b A0 A
  sz : base ≤ W.heap.size
section
variable {w0 W W' : World} {base b E C co c c' : Nat} {A0 Ao A A' : Option Addr} {e : Ed} {l l' : List UInt8}
theorem wstep_below (h : Wr W base b A c l) (hs : base ≤ W.heap.size) (st : WStep W W' b A A') : Below base W W' :=
  st.1.below (fun k hk e => by
    rcases e with e | e
    · have := h.1; omega
    · have := (h.2.2.block_lt k (by rw [ownBlock_bl]; exact e)).1; omega) hs
theorem PS.step (h : PS w0 base b A0 E C e Ao co W A c l) (hw : Wr W' base b A' c' l') (st : WStep W W' b A A') : PS w0 base b A0 E C e Ao co W' A' c' l' := by
  have hb := wstep_below h.wr h.sz st
  refine ⟨hw, h.ev.ch st.1 ?_, h.ck.ch st.1 ?_, h.eb, h.cb, ?_, ?_, Ds.below h.ov hb, h.st.trans st, Nat.le_trans h.sz hb.size⟩
  · rintro (e | e)
    · exact h.eb e
    · exact h.ea e
  · rintro (e | e)
    · exact h.cb e
    · exact h.ca e
  · intro e
    rcases st.2 _ e with e | e
    · exact h.ea e
    · have := h.ev.lt; omega
  · intro e
    rcases st.2 _ e with e | e
    · exact h.ca e
    · have := h.ck.lt; omega
theorem PS.low (h : PS w0 base b A0 E C e Ao co W A c l) (k : Below W.heap.size W W') : PS w0 base b A0 E C e Ao co W' A c l :=
  ⟨h.wr.below k, h.ev.below k h.ev.lt, h.ck.below k h.ck.lt, h.eb, h.cb, h.ea, h.ca, Ds.below h.ov (below_of_le k h.sz), h.st.below k, Nat.le_trans h.sz k.size⟩
theorem PS.cells (h : PS w0 base b A0 E C e Ao co W A c l) : W.cell? ⟨E, 0, none⟩ = some (.int .i64 e.dot.1.1) ∧ W.cell? ⟨E, 1, none⟩ = some (.int .i64 e.dot.1.2) ∧ W.cell? ⟨E, 2, none⟩ = some (.int .i64 e.dot.2) ∧ W.cell? ⟨E, 3, none⟩ = some (.int .i64 e.st.1) ∧ W.cell? ⟨E, 4, none⟩ = some (.int .i64 e.st.2.1) ∧ W.cell? ⟨E, 5, none⟩ = some (.int .i64 e.st.2.2) ∧ W.cell? ⟨E, 6, none⟩ = some (.int .i64 e.kind) ∧ W.cell? ⟨E, 7, none⟩ = some (.string (bs e.name)) ∧ W.cell? ⟨E, 8, none⟩ = some (.string (bs e.dom)) ∧ W.cell? ⟨E, 9, none⟩ = some (.string (bs e.path)) ∧ W.cell? ⟨E, 18, none⟩ = some (.slice Ao e.over.length co) ∧ W.cell? ⟨C, 0, none⟩ = some (.string (bs e.value)) ∧ W.cell? ⟨C, 1, none⟩ = some (.bool e.ho) ∧ W.cell? ⟨C, 2, none⟩ = some (.bool e.se) ∧ W.cell? ⟨C, 3, none⟩ = some (.bool e.ht) ∧ W.cell? ⟨C, 4, none⟩ = some (.bool e.pe) ∧ W.cell? ⟨C, 5, none⟩ = some (.int .i64 e.exp) ∧ W.cell? ⟨C, 6, none⟩ = some (.int .i64 e.cre) ∧ W.cell? ⟨C, 7, none⟩ = some (.int .i64 e.acc) := by
  refine ⟨?_, ?_, ?_, ?_, ?_, ?_, ?_, ?_, ?_, ?_, ?_, ?_, ?_, ?_, ?_, ?_, ?_, ?_, ?_⟩
  all_goals first | (rw [h.ev.cell]; rfl) | (rw [h.ck.cell]; rfl)
theorem PS.strs (h : PS w0 base b A0 E C e Ao co W A c l) : W.cell? ⟨E, 7, none⟩ = some (.string (bs e.name)) ∧ W.cell? ⟨E, 8, none⟩ = some (.string (bs e.dom)) ∧ W.cell? ⟨E, 9, none⟩ = some (.string (bs e.path)) ∧ W.cell? ⟨C, 0, none⟩ = some (.string (bs e.value)) := by
  refine ⟨?_, ?_, ?_, ?_⟩
  all_goals first | (rw [h.ev.cell]; rfl) | (rw [h.ck.cell]; rfl)
theorem PS.nums (h : PS w0 base b A0 E C e Ao co W A c l) : W.cell? ⟨C, 5, none⟩ = some (.int .i64 e.exp) ∧ W.cell? ⟨C, 6, none⟩ = some (.int .i64 e.cre) ∧ W.cell? ⟨C, 7, none⟩ = some (.int .i64 e.acc) := by
  refine ⟨?_, ?_, ?_⟩
  all_goals (rw [h.ck.cell]; rfl)
end
/-- What an event that may be is. -/
structure EvOk (e : Ed) : Prop where
  dot : dotB e.dot.1.1 e.dot.1.2 e.dot.2 = true
  st : stB e.st.1 e.st.2.1 e.st.2.2 = true
  over : e.over.length ≤ 64
  kind : e.kind = 1 ∨ e.kind = 2
  lens : e.kind = 1 → e.name.length ≤ 256 ∧ e.dom.length ≤ 256 ∧ e.path.length ≤ 256 ∧ e.value.length ≤ 1024
  times : e.kind = 1 → -1099511627776 ≤ e.exp ∧ e.exp ≤ 1099511627776 ∧ 0 ≤ e.cre ∧ e.cre ≤ 1099511627776 ∧ 0 ≤ e.acc ∧ e.acc ≤ 1099511627776
  rights : ∀ x ∈ e.over, rightD x = true
theorem ev_ok {e : Ed} (h : evB e = true) : EvOk e := by
  unfold evB at h
  simp only [Bool.and_eq_true] at h
  obtain ⟨⟨⟨⟨h1, h2⟩, h3⟩, h4⟩, h5⟩ := h
  unfold overB at h4
  rw [Bool.and_eq_true, decide_eq_true_eq] at h4
  have hk : e.kind = 1 ∨ e.kind = 2 := by
    by_cases h2 : e.kind = 2
    · exact .inr h2
    · rw [if_neg h2] at h5
      by_cases h1 : e.kind = 1
      · exact .inl h1
      · rw [if_neg h1] at h5; cases h5
  have hi : e.kind = 1 → itemB e.name e.dom e.path e.value e.pe e.exp e.cre e.acc = true := fun h1 => by
    rw [if_neg (by rw [h1]; decide), if_pos h1] at h5
    exact h5
  refine ⟨h1, h2, h4.1, hk, fun h1 => ?_, fun h1 => ?_, ovG_mem h4.2⟩
  · have := hi h1
    unfold itemB canonB at this
    simp only [Bool.and_eq_true, decide_eq_true_eq] at this
    exact ⟨this.1.1.1.1.1.1.1.1.2, this.1.1.1.2.1, this.1.2, this.1.1.1.1.1.2⟩
  · have := hi h1
    unfold itemB timesB at this
    simp only [Bool.and_eq_true, decide_eq_true_eq] at this
    have t := this.2
    exact ⟨t.1.1.1.1.1.1, t.1.1.1.1.1.2, t.1.1.1.1.2, t.1.1.1.2, t.1.1.2, t.1.2⟩
theorem EvOk.short {e : Ed} (h : EvOk e) (hz : e.kind ≠ 1 → e.name = [] ∧ e.dom = [] ∧ e.path = [] ∧ e.value = []) : short e := by
  have := h.over
  by_cases h1 : e.kind = 1
  · have := h.lens h1
    unfold Go.Proofs.YtpakmeegldgjmaaGreat.short
    omega
  · obtain ⟨a, b, c, d⟩ := hz h1
    unfold Go.Proofs.YtpakmeegldgjmaaGreat.short
    rw [a, b, c, d]
    simp
    omega
theorem ev_short {e : Ed} (h : evB e = true) : short e := (ev_ok h).short fun h1 => by
  unfold evB at h
  simp only [Bool.and_eq_true] at h
  have h5 := h.2
  rcases (ev_ok (by unfold evB; simp only [Bool.and_eq_true]; exact h)).kind with hk | hk
  · exact absurd hk h1
  · rw [if_pos hk, Bool.and_eq_true] at h5
    have hz := h5.1
    unfold zeroB at hz
    simp only [Bool.and_eq_true, decide_eq_true_eq] at hz
    exact ⟨hz.1.1.1.1.1.1.1.1.1.1, hz.1.1.1.1.1.1.1.1.1.2, hz.1.1.1.1.1.1.1.1.2, hz.1.1.1.1.1.1.1.2⟩
/-- An event's flags. -/
def evF (e : Ed) : List Bool := [decide (e.kind = 1), e.ho, e.se, e.ht, e.pe]
theorem evP_eq (e : Ed) (l : List UInt8) : l ++ evP e = ((((l ++ dP e.dot) ++ stP e.st.1 e.st.2.1 e.st.2.2) ++ [flB (evF e)]) ++ vput e.over.length) ++ dsP e.over ++ (if e.kind = 1 then itP e else []) := by
  unfold evP evF
  simp [List.append_assoc]
theorem itP_eq (e : Ed) (l : List UInt8) (c a : Nat) (hc : e.cre = c) (ha : e.acc = a) : l ++ itP e = ((((((l ++ (vput (bs e.name).size ++ sb (bs e.name))) ++ (vput (bs e.dom).size ++ sb (bs e.dom))) ++ (vput (bs e.path).size ++ sb (bs e.path))) ++ (vput (bs e.value).size ++ sb (bs e.value))) ++ vput (foldI e.exp).toNat) ++ vput c) ++ vput a := by
  unfold itP txP
  rw [hc, ha]
  have e1 : ∀ x : List UInt8, sb (bs x) = x := fun _ => rfl
  simp [List.append_assoc, bs_size, e1]
theorem EV.alls {N E c : Nat} {w W : World} {e : Ed} {A : Option Addr} (h : EV N w E e A c W) : W.cell? ⟨E, 0, none⟩ = some (.int .i64 e.dot.1.1) ∧ W.cell? ⟨E, 1, none⟩ = some (.int .i64 e.dot.1.2) ∧ W.cell? ⟨E, 2, none⟩ = some (.int .i64 e.dot.2) ∧ W.cell? ⟨E, 3, none⟩ = some (.int .i64 e.st.1) ∧ W.cell? ⟨E, 4, none⟩ = some (.int .i64 e.st.2.1) ∧ W.cell? ⟨E, 5, none⟩ = some (.int .i64 e.st.2.2) ∧ W.cell? ⟨E, 6, none⟩ = some (.int .i64 e.kind) ∧ W.cell? ⟨E, 7, none⟩ = some (.string (bs e.name)) ∧ W.cell? ⟨E, 8, none⟩ = some (.string (bs e.dom)) ∧ W.cell? ⟨E, 9, none⟩ = some (.string (bs e.path)) ∧ W.cell? ⟨E, 10, none⟩ = some (.string (bs e.value)) ∧ W.cell? ⟨E, 11, none⟩ = some (.bool e.ho) ∧ W.cell? ⟨E, 12, none⟩ = some (.bool e.se) ∧ W.cell? ⟨E, 13, none⟩ = some (.bool e.ht) ∧ W.cell? ⟨E, 14, none⟩ = some (.bool e.pe) ∧ W.cell? ⟨E, 15, none⟩ = some (.int .i64 e.exp) ∧ W.cell? ⟨E, 16, none⟩ = some (.int .i64 e.cre) ∧ W.cell? ⟨E, 17, none⟩ = some (.int .i64 e.acc) ∧ W.cell? ⟨E, 18, none⟩ = some (.slice A e.over.length c) := by
  refine ⟨?_, ?_, ?_, ?_, ?_, ?_, ?_, ?_, ?_, ?_, ?_, ?_, ?_, ?_, ?_, ?_, ?_, ?_, ?_⟩
  all_goals (rw [h.1.cell]; rfl)
theorem stP_len (d i s : Int) : (stP d i s).length ≤ 30 := by
  unfold stP
  split
  · rename_i h
    simp [stB, inB] at h
    have h1 := vput_le (x := d.toNat) (by omega)
    have h2 := vput_le (x := i.toNat) (by omega)
    have h3 := vput_le (x := s.toNat) (by omega)
    simp only [List.length_append]
    omega
  · simp
set_option maxHeartbeats 8000000 in
theorem evput_any (e : Ed) (Ao : Option Addr) (co : Nat) (w : World) (base b : Nat) (A : Option Addr) (c : Nat) (l : List UInt8) (h : Wr w base b A c l) (hbase : base ≤ w.heap.size) (hl : l.length ≤ 400000) (ho : Ds w base Ao e.over) (hq : evB e = true) :
    Calls Tryz.prog 23 #[.pointer (some ⟨b, 0, none⟩), evV e Ao co] w (WEnd0 w base b A (l ++ evP e)) := by
  have hs := ev_short hq
  have ok := ev_ok hq
  have HE := Lib.hid (ev_new w e Ao co (ho.more hbase))
  have CR := Lib.hid (fun (W : World) (hm : MsAt W Ao e.over) => evright_any e Ao co W hm hs)
  rw [hq] at CR
  have CD := Lib.hid (fun (x : Dt) (W : World) (A : Option Addr) (c : Nat) (l : List UInt8) (h : Wr W base b A c l) (hb : base ≤ W.heap.size) (hl : l.length ≤ 900000) => dput_any x.1.1 x.1.2 x.2 W base b A c l h hb hl)
  have CS := Lib.hid (fun (W : World) (A : Option Addr) (c : Nat) (l : List UInt8) (h : Wr W base b A c l) (hb : base ≤ W.heap.size) (hl : l.length ≤ 900000) => cput_any e.st.1 e.st.2.1 e.st.2.2 W base b A c l h hb hl)
  have CF := Lib.hid (fun (W : World) (A : Option Addr) (c : Nat) (l : List UInt8) (FA : Option Addr) (fc B : Nat) (h : Wr W base b A c l) (hb : base ≤ W.heap.size) (hl : l.length ≤ 1000000) (hr : Rd W B 1 FA 5 (tv (evF e))) => wflags_any W base b A c l FA 5 fc B (evF e) h hb hl hr (by omega))
  have CN := Lib.hid (fun (x : Nat) (hx : x < 18446744073709551616) (W : World) (A : Option Addr) (c : Nat) (l : List UInt8) (h : Wr W base b A c l) (hb : base ≤ W.heap.size) (hl : l.length ≤ 1000000) => wnum_any W base b A c l x h hb hl hx)
  have h0 := HE.out.1.lt
  have hbE : w.heap.size ≠ b := by have := h.2.1.lt; omega
  have hAE : bl A ≠ some w.heap.size := fun e => by have := (h.2.2.block_lt _ (by rw [ownBlock_bl]; exact e)).2; omega
  have hW0 := h.below ((Below.refl w.heap.size w).alloc (Nat.le_refl _) (.cells (evA e Ao co) 59))
  have hst0 : WStep w (w.alloc (.cells (evA e Ao co) 59)) b A A := (WStep.refl w b A).below ((Below.refl _ _).alloc (Nat.le_refl _) _)
  have hov0 := Ds.below ho (below_of_le ((Below.refl w.heap.size w).alloc (Nat.le_refl _) (.cells (evA e Ao co) 59)) hbase)
  have hbs0 : base ≤ (w.alloc (.cells (evA e Ao co) 59)).heap.size := by simp; omega
  have hbl : bl A ≠ none → True := fun _ => trivial
  have hAlt : ∀ k, bl A = some k → k < w.heap.size := fun k hk => (h.2.2.block_lt k (by rw [ownBlock_bl]; exact hk)).2
  have hblt : b < w.heap.size := h.2.1.lt
  unfold evA at HE hW0 hst0 hov0 hbs0
  unfold evV at CR ⊢
  generalize hLL : l ++ evP e = LL at *
  have HLL := Lib.hid hLL.symm
  clear hLL h0 h
  go_enter Tryz.func23, Tryz.ntmps23
  go_wp2_with (refine ld_event (by rfl) _ rfl rfl HE.out ?_)
  generalize w.alloc (.cells #[.int .i64 e.dot.1.1, .int .i64 e.dot.1.2, .int .i64 e.dot.2, .int .i64 e.st.1, .int .i64 e.st.2.1, .int .i64 e.st.2.2, .int .i64 e.kind, .string (bs e.name), .string (bs e.dom), .string (bs e.path), .string (bs e.value), .bool e.ho, .bool e.se, .bool e.ht, .bool e.pe, .int .i64 e.exp, .int .i64 e.cre, .int .i64 e.acc, .slice Ao e.over.length co] 59) = W0 at *
  refine (CR.out W0 (HE.out.2.1.more HE.out.2.2.2)).mono ?_; rintro r w1 ⟨rfl, b1⟩
  have hE1 := HE.out.step b1
  have hW1 := hW0.below b1
  have hst1 := hst0.below b1
  have hov1 := Ds.below hov0 (below_of_le b1 hbs0)
  have hbs1 := Nat.le_trans hbs0 b1.size
  have H1 := Lib.hid (And.intro hE1 (And.intro hW1 (And.intro hst1 (And.intro hov1 hbs1))))
  clear HE CR hW0 hst0 hov0 hbs0 b1 hE1 hW1 hst1 hov1 hbs1 ho
  obtain ⟨m0, m1, m2, m3, m4, m5, m6, m7, m8, m9, m10, m11, m12, m13, m14, m15, m16, m17, m18⟩ := H1.out.1.alls
  have hP2 : PS w base b A w.heap.size w1.heap.size e Ao co (w1.alloc (.cells (cookC e) 56)) A c l := by
    have hlt := H1.out.1.1.lt
    have bb := (Below.refl w1.heap.size w1).alloc (Nat.le_refl _) (.cells (cookC e) 56)
    exact ⟨H1.out.2.1.below bb, H1.out.1.1.alloc _, Whole.new _ _ _, hbE, by omega, hAE, fun e => by have := hAlt _ e; omega, Ds.below H1.out.2.2.2.1 (below_of_le bb H1.out.2.2.2.2), H1.out.2.2.1.below bb, by simp; have := H1.out.2.2.2.2; omega⟩
  unfold cookC at hP2
  have P2 := Lib.hid hP2
  clear hP2 hbE hAE hAlt hblt hbl
  go_upto_region 3 with fail
  clear H1 m0 m1 m2 m3 m4 m5 m6 m7 m8 m9 m10 m11 m12 m13 m14 m15 m16 m17 m18
  generalize w1.alloc (.cells #[.string (bs e.value), .bool e.ho, .bool e.se, .bool e.ht, .bool e.pe, .int .i64 e.exp, .int .i64 e.cre, .int .i64 e.acc] 56) = W2 at *
  generalize w1.heap.size = C at *
  generalize w.heap.size = E at *
  have l1 := dP_len e.dot
  have l2 := Lib.hid (vput_le (x := e.over.length) (by have := ok.over; omega))
  have hd0 := CD.out e.dot
  unfold dotV at hd0
  have CD0 := Lib.hid hd0
  have hs0 := CS.out
  unfold stV at hs0
  have CS0 := Lib.hid hs0
  clear hd0 hs0 CS
  obtain ⟨y0y, y1y, y2y, y3y, y4y, y5y, y6y, y7y, y8y, y9y, y18y, z0, z1, z2, z3, z4, z5, z6, z7⟩ := P2.out.cells
  go_wp2_with fail
  refine (CD0.out W2 A c l P2.out.wr P2.out.sz (by omega)).mono ?_; rintro r w3 ⟨A3, c3, rfl, hw3, st3⟩
  have P3 := Lib.hid (P2.out.step hw3 st3)
  clear hw3 st3 P2
  clear y0y y1y y2y y3y y4y y5y y6y y7y y8y y9y y18y z0 z1 z2 z3 z4 z5 z6 z7
  obtain ⟨y0y, y1y, y2y, y3y, y4y, y5y, y6y, y7y, y8y, y9y, y18y, z0, z1, z2, z3, z4, z5, z6, z7⟩ := P3.out.cells
  have len3 := Lib.hid (show (l ++ dotP e.dot.1.1 e.dot.1.2 e.dot.2).length ≤ 400100 by have : (dotP e.dot.1.1 e.dot.1.2 e.dot.2).length ≤ 30 := l1; simp; omega)
  go_wp2_with fail
  refine (CS0.out w3 A3 c3 _ P3.out.wr P3.out.sz (by have := len3.out; omega)).mono ?_; rintro r w4 ⟨A4, c4, rfl, hw4, st4⟩
  have P4 := Lib.hid (P3.out.step hw4 st4)
  clear hw4 st4 P3
  clear y0y y1y y2y y3y y4y y5y y6y y7y y8y y9y y18y z0 z1 z2 z3 z4 z5 z6 z7
  have len4 := Lib.hid (show ((l ++ dotP e.dot.1.1 e.dot.1.2 e.dot.2) ++ stP e.st.1 e.st.2.1 e.st.2.2).length ≤ 400200 by have := stP_len e.st.1 e.st.2.1 e.st.2.2; have := len3.out; rw [List.length_append]; omega)
  have HL4 := Lib.hid (show (l ++ dotP e.dot.1.1 e.dot.1.2 e.dot.2) ++ stP e.st.1 e.st.2.1 e.st.2.2 = (l ++ dP e.dot) ++ stP e.st.1 e.st.2.1 e.st.2.2 from rfl)
  generalize ((l ++ dotP e.dot.1.1 e.dot.1.2 e.dot.2) ++ stP e.st.1 e.st.2.1 e.st.2.2) = L4 at *
  have bb4 := (Below.refl w4.heap.size w4).alloc (Nat.le_refl _) (.cells #[.bool (e.kind == 1), .bool e.ho, .bool e.se, .bool e.ht, .bool e.pe] 4)
  have P4b := Lib.hid (P4.out.low bb4)
  have hfe : (decide (e.kind = 1)) = (e.kind == 1) := by rw [Bool.eq_iff_iff]; simp
  have hr4 : Rd (w4.alloc (.cells #[.bool (e.kind == 1), .bool e.ho, .bool e.se, .bool e.ht, .bool e.pe] 4)) (w4.heap.size + 1) 1 (some ⟨w4.heap.size, 0, none⟩) 5 (tv (evF e)) := by
    have := Rd.fresh w4 #[.bool (e.kind == 1), .bool e.ho, .bool e.se, .bool e.ht, .bool e.pe] 4 5 rfl
    unfold evF
    rw [hfe]
    exact this
  have HR4 := Lib.hid hr4
  clear hr4 bb4 hfe
  obtain ⟨y0y, y1y, y2y, y3y, y4y, y5y, y6y, y7y, y8y, y9y, y18y, z0, z1, z2, z3, z4, z5, z6, z7⟩ := P4.out.cells
  go_wp2_with fail
  clear y0y y1y y2y y3y y4y y5y y6y y7y y8y y9y y18y z0 z1 z2 z3 z4 z5 z6 z7
  refine (CF.out _ A4 c4 _ _ _ _ P4b.out.wr P4b.out.sz (by have := len4.out; omega) HR4.out).mono ?_; rintro r w5 ⟨A5, c5, rfl, hw5, st5⟩
  have P5 := Lib.hid (P4b.out.step hw5 st5)
  clear hw5 st5 P4 P4b HR4 CF
  obtain ⟨y0y, y1y, y2y, y3y, y4y, y5y, y6y, y7y, y8y, y9y, y18y, z0, z1, z2, z3, z4, z5, z6, z7⟩ := P5.out.cells
  have len5 := Lib.hid (show (L4 ++ [flB (evF e)]).length ≤ 400201 by have := len4.out; simp; omega)
  have y5 : IntKind.u64.wrap (e.over.length : Int) = (e.over.length : Int) := by rw [IntKind.wrap_u64]; have := ok.over; omega
  go_wp2_with fail
  refine (CN.out e.over.length (by have := ok.over; omega) w5 A5 c5 _ P5.out.wr P5.out.sz (by have := len5.out; omega)).mono ?_; rintro r w6 ⟨A6, c6', rfl, hw6, st6⟩
  have P6 := Lib.hid (P5.out.step hw6 st6)
  clear hw6 st6 P5
  clear y0y y1y y2y y3y y4y y5y y6y y7y y8y y9y y18y z0 z1 z2 z3 z4 z5 z6 z7
  obtain ⟨y0y, y1y, y2y, y3y, y4y, y5y, y6y, y7y, y8y, y9y, y18y, z0, z1, z2, z3, z4, z5, z6, z7⟩ := P6.out.cells
  have len6 := Lib.hid (show ((L4 ++ [flB (evF e)]) ++ vput e.over.length).length ≤ 400300 by have := len5.out; have := l2.out; rw [List.length_append]; omega)
  have HL6 := Lib.hid (show (L4 ++ [flB (evF e)]) ++ vput e.over.length = (((l ++ dP e.dot) ++ stP e.st.1 e.st.2.1 e.st.2.2) ++ [flB (evF e)]) ++ vput e.over.length by rw [HL4.out])
  generalize (L4 ++ [flB (evF e)]) ++ vput e.over.length = L6 at *
  have hn64 := ok.over
  generalize hlen : e.over.length = n at *
  have HLn := Lib.hid hlen
  clear hlen
  go_wp2
  clear y0y y1y y2y y3y y4y y5y y6y y7y y8y y9y y18y z0 z1 z2 z3 z4 z5 z6 z7
  go_loopw [43] (fun i wr => ∃ (j : Nat) (A7 : Option Addr) (c7 : Nat), j ≤ n ∧ i = .int .i64 j ∧ PS w base b A E C e Ao co wr A7 c7 (L6 ++ dsP (e.over.take j))) (fun i _ => n - (intOf i).toNat)
  case atStart => exact ⟨0, A6, c6', by omega, rfl, by simpa [dsP] using P6.out⟩
  case round =>
    obtain ⟨j, A7, c7', hj, rfl, hP⟩ := hrel
    have P7 := Lib.hid hP
    clear hP P6
    have len7 := Lib.hid (show (L6 ++ dsP (e.over.take j)).length ≤ 403000 by
      have h1 := dsP_len (e.over.take j)
      have h2 := List.length_take_le j e.over
      have := len6.out
      rw [List.length_append]
      omega)
    by_cases hlt : j < n
    · obtain ⟨x, hx⟩ : ∃ x, e.over[j]? = some x := ⟨e.over[j]'(by have := HLn.out; omega), List.getElem?_eq_getElem _⟩
      obtain ⟨b0, o0, hA, hbN, g0, g1, g2⟩ := Ds.at_ P7.out.ov hx
      subst hA
      have HX := Lib.hid (show (L6 ++ dsP (e.over.take j)) ++ dP x = L6 ++ dsP (e.over.take (j + 1)) by rw [dsP_step hx, List.append_assoc])
      have CX0 := CD.out x
      unfold dotV at CX0
      have CX := Lib.hid CX0
      clear CX0 hx
      obtain ⟨⟨x1, x2⟩, x3⟩ := x
      simp only at g0 g1 g2
      have bb := (Below.refl wr.heap.size wr).alloc (Nat.le_refl _) (.cells #[.int .i64 x1, .int .i64 x2, .int .i64 x3] 50)
      have P7b := Lib.hid (P7.out.low bb)
      clear bb
      go_wp2_with fail
      refine (CX.out _ A7 c7' _ P7b.out.wr P7b.out.sz (by have := len7.out; omega)).mono ?_; rintro r w8 ⟨A8, c8, rfl, hw8, st8⟩
      have P8 := Lib.hid (P7b.out.step hw8 st8)
      clear hw8 st8
      go_wp2
      go_roundw
      case rel => exact ⟨j + 1, A8, c8, by omega, by go_num, by rw [← HX.out]; exact P8.out⟩
      case measure => simp [intOf]; omega
    · have hj' : j = n := by omega
      have HL7 := Lib.hid (show L6 ++ dsP (e.over.take j) = L6 ++ dsP e.over by rw [List.take_of_length_le (by have := HLn.out; omega)])
      have HLQ := Lib.hid (show LL = (L6 ++ dsP e.over) ++ (if e.kind = 1 then itP e else []) by rw [HLL.out, evP_eq, HL6.out, HLn.out])
      rw [HL7.out] at P7 len7
      clear hj hlt CD CD0 CS0 HL7
      generalize L6 ++ dsP e.over = L7 at *
      obtain ⟨y0y, y1y, y2y, y3y, y4y, y5y, y6y, y7y, y8y, y9y, y18y, z0, z1, z2, z3, z4, z5, z6, z7⟩ := P7.out.cells
      by_cases hk1 : e.kind = 1
      · have t1 : (e.kind == 1) = true := by rw [beq_iff_eq]; exact hk1
        have lens := Lib.hid (ok.lens hk1)
        have tms := Lib.hid (ok.times hk1)
        have HLR := Lib.hid (show LL = L7 ++ itP e by rw [HLQ.out, if_pos hk1])
        clear hk1
        obtain ⟨cn, hcn⟩ := Int.eq_ofNat_of_zero_le tms.out.2.2.1
        obtain ⟨an, han⟩ := Int.eq_ofNat_of_zero_le tms.out.2.2.2.2.1
        have HLS := Lib.hid (HLR.out.trans (itP_eq e L7 cn an hcn han))
        have CT := Lib.hid (fun (t : List UInt8) (ht : t.length ≤ 1024) (W : World) (A : Option Addr) (c : Nat) (l : List UInt8) (h : Wr W base b A c l) (hb : base ≤ W.heap.size) (hl : l.length ≤ 1000000) => wtext_any W base b A c l (bs t) h hb hl (by rw [bs_size]; omega))
        have CI := Lib.hid (fun (W : World) (A : Option Addr) (c : Nat) (l : List UInt8) (h : Wr W base b A c l) (hb : base ≤ W.heap.size) (hl : l.length ≤ 1000000) => wint_any W base b A c l e.exp h hb hl (by have := tms.out; omega) (by have := tms.out; omega))
        have u1 := Lib.hid (txP_len e.name (by have := lens.out; omega))
        have u2 := Lib.hid (txP_len e.dom (by have := lens.out; omega))
        have u3 := Lib.hid (txP_len e.path (by have := lens.out; omega))
        have u4 := Lib.hid (txP_len e.value (by have := lens.out; omega))
        have u5 := Lib.hid (vput_le (x := (foldI e.exp).toNat) (by have := foldI_lt e.exp (by have := tms.out; omega) (by have := tms.out; omega); have := foldI_nn e.exp; omega))
        have u6 := Lib.hid (vput_le (x := cn) (by have := tms.out; omega))
        have P7d := Lib.hid (P7.out.low (Below.refl _ _).drew)
        have n1 := Lib.hid (show (L7 ++ (vput (bs e.name).size ++ sb (bs e.name))).length ≤ 404000 by have h1 : (vput (bs e.name).size ++ sb (bs e.name)).length ≤ 10 + e.name.length := u1.out; have := len7.out; have := lens.out; rw [List.length_append]; omega)
        have n2 := Lib.hid (show ((L7 ++ (vput (bs e.name).size ++ sb (bs e.name))) ++ (vput (bs e.dom).size ++ sb (bs e.dom))).length ≤ 405000 by have h1 : (vput (bs e.dom).size ++ sb (bs e.dom)).length ≤ 10 + e.dom.length := u2.out; have := n1.out; have := lens.out; rw [List.length_append]; omega)
        have n3 := Lib.hid (show (((L7 ++ (vput (bs e.name).size ++ sb (bs e.name))) ++ (vput (bs e.dom).size ++ sb (bs e.dom))) ++ (vput (bs e.path).size ++ sb (bs e.path))).length ≤ 406000 by have h1 : (vput (bs e.path).size ++ sb (bs e.path)).length ≤ 10 + e.path.length := u3.out; have := n2.out; have := lens.out; rw [List.length_append]; omega)
        have n4 := Lib.hid (show ((((L7 ++ (vput (bs e.name).size ++ sb (bs e.name))) ++ (vput (bs e.dom).size ++ sb (bs e.dom))) ++ (vput (bs e.path).size ++ sb (bs e.path))) ++ (vput (bs e.value).size ++ sb (bs e.value))).length ≤ 408000 by have h1 : (vput (bs e.value).size ++ sb (bs e.value)).length ≤ 10 + e.value.length := u4.out; have := n3.out; have := lens.out; rw [List.length_append]; omega)
        clear u1 u2 u3 u4
        generalize hM1 : L7 ++ (vput (bs e.name).size ++ sb (bs e.name)) = M1 at *
        generalize hM2 : M1 ++ (vput (bs e.dom).size ++ sb (bs e.dom)) = M2 at *
        generalize hM3 : M2 ++ (vput (bs e.path).size ++ sb (bs e.path)) = M3 at *
        generalize hM4 : M3 ++ (vput (bs e.value).size ++ sb (bs e.value)) = M4 at *
        have CT1 := CT.out e.name (by have := lens.out; omega) wr.drew A7 c7' L7 P7d.out.wr P7d.out.sz (by have := len7.out; omega)
        rw [hM1] at CT1
        have CT1 := Lib.hid CT1
        have CT2 := fun W A c h hb => CT.out e.dom (by have := lens.out; omega) W A c M1 h hb (by have := n1.out; omega)
        rw [hM2] at CT2
        have CT2 := Lib.hid CT2
        have CT3 := fun W A c h hb => CT.out e.path (by have := lens.out; omega) W A c M2 h hb (by have := n2.out; omega)
        rw [hM3] at CT3
        have CT3 := Lib.hid CT3
        have CT4 := fun W A c h hb => CT.out e.value (by have := lens.out; omega) W A c M3 h hb (by have := n3.out; omega)
        rw [hM4] at CT4
        have CT4 := Lib.hid CT4
        clear hM1 hM2 hM3 hM4 CT
        have n5 := Lib.hid (show (M4 ++ vput (foldI e.exp).toNat).length ≤ 409000 by have := n4.out; have := u5.out; rw [List.length_append]; omega)
        have n6 := Lib.hid (show ((M4 ++ vput (foldI e.exp).toNat) ++ vput cn).length ≤ 410000 by have := n5.out; have := u6.out; rw [List.length_append]; omega)
        go_upto_region 13 with fail
        refine wp_region_held_drew (S := (fun W => W.cell? ⟨E, 7, none⟩ = some (.string (bs e.name)) ∧ W.cell? ⟨E, 8, none⟩ = some (.string (bs e.dom)) ∧ W.cell? ⟨E, 9, none⟩ = some (.string (bs e.path)) ∧ W.cell? ⟨C, 0, none⟩ = some (.string (bs e.value)))) (by kernel_rfl) ?_ (fun hHeld => ?_)
        · (try dsimp only); exact P7.out.strs
        refine wpAnyH_take (i := 0) (v := ?_) rfl (by kernel_rfl) (by kernel_rfl) (by kernel_rfl) (fun _ _ _ h => h) (Or.inl ⟨by rfl, ?_⟩) (by assumption) ?_
        rotate_left
        first | (focus ((intro w hSw; (try dsimp only at hSw); go_simp); (try with_reducible rfl); done)) | fail
        try simp only [Act.put, List.getElem_toArray, List.getElem_cons_zero, List.setIfInBounds_toArray, List.set_cons_zero, List.set_cons_succ]
        refine wpAnyH_take (i := 1) (v := ?_) rfl (by kernel_rfl) (by kernel_rfl) (by kernel_rfl) (fun _ _ _ h => h) (Or.inl ⟨by rfl, ?_⟩) (by assumption) ?_
        rotate_left
        first | (focus ((intro w hSw; (try dsimp only at hSw); go_simp); (try with_reducible rfl); done)) | fail
        try simp only [Act.put, List.getElem_toArray, List.getElem_cons_zero, List.getElem_cons_succ, List.setIfInBounds_toArray, List.set_cons_zero, List.set_cons_succ]
        refine wpAnyH_take (i := 2) (v := ?_) rfl (by kernel_rfl) (by kernel_rfl) (by kernel_rfl) (fun _ _ _ h => h) (Or.inl ⟨by rfl, ?_⟩) (by assumption) ?_
        rotate_left
        first | (focus ((intro w hSw; (try dsimp only at hSw); go_simp); (try with_reducible rfl); done)) | fail
        try simp only [Act.put, List.getElem_toArray, List.getElem_cons_zero, List.getElem_cons_succ, List.setIfInBounds_toArray, List.set_cons_zero, List.set_cons_succ]
        refine wpAnyH_take (i := 3) (v := ?_) rfl (by kernel_rfl) (by kernel_rfl) (by kernel_rfl) (fun _ _ _ h => h) (Or.inl ⟨by rfl, ?_⟩) (by assumption) ?_
        rotate_left
        first | (focus ((intro w hSw; (try dsimp only at hSw); go_simp); (try with_reducible rfl); done)) | fail
        try simp only [Act.put, List.getElem_toArray, List.getElem_cons_zero, List.getElem_cons_succ, List.setIfInBounds_toArray, List.set_cons_zero, List.set_cons_succ]
        refine wpAnyH_take (i := 5) (v := ?_) rfl (by kernel_rfl) (by kernel_rfl) (by kernel_rfl) (fun _ _ _ h => h) (Or.inl ⟨by rfl, ?_⟩) (by assumption) ?_
        rotate_left
        first | (focus ((intro w hSw; (try dsimp only at hSw); go_simp); (try with_reducible rfl); done)) | fail
        try simp only [Act.put, List.getElem_toArray, List.getElem_cons_zero, List.getElem_cons_succ, List.setIfInBounds_toArray, List.set_cons_zero, List.set_cons_succ]
        refine wpAnyH_take (i := 6) (v := ?_) rfl (by kernel_rfl) (by kernel_rfl) (by kernel_rfl) (fun _ _ _ h => h) (Or.inl ⟨by rfl, ?_⟩) (by assumption) ?_
        rotate_left
        first | (focus ((intro w hSw; (try dsimp only at hSw); go_simp); (try with_reducible rfl); done)) | fail
        try simp only [Act.put, List.getElem_toArray, List.getElem_cons_zero, List.getElem_cons_succ, List.setIfInBounds_toArray, List.set_cons_zero, List.set_cons_succ]
        refine wpAnyH_take (i := 7) (v := ?_) rfl (by kernel_rfl) (by kernel_rfl) (by kernel_rfl) (fun _ _ _ h => h) (Or.inl ⟨by rfl, ?_⟩) (by assumption) ?_
        rotate_left
        first | (focus ((intro w hSw; (try dsimp only at hSw); go_simp); (try with_reducible rfl); done)) | fail
        try simp only [Act.put, List.getElem_toArray, List.getElem_cons_zero, List.getElem_cons_succ, List.setIfInBounds_toArray, List.set_cons_zero, List.set_cons_succ]
        refine wpAnyH_take (i := 9) (v := ?_) rfl (by kernel_rfl) (by kernel_rfl) (by kernel_rfl) (fun _ _ _ h => h) (Or.inl ⟨by rfl, ?_⟩) (by assumption) ?_
        rotate_left
        first | (focus ((intro w hSw; (try dsimp only at hSw); go_simp); (try with_reducible rfl); done)) | fail
        try simp only [Act.put, List.getElem_toArray, List.getElem_cons_zero, List.getElem_cons_succ, List.setIfInBounds_toArray, List.set_cons_zero, List.set_cons_succ]
        refine wpAnyH_take (i := 10) (v := ?_) rfl (by kernel_rfl) (by kernel_rfl) (by kernel_rfl) (fun _ _ _ h => h) (Or.inl ⟨by rfl, ?_⟩) (by assumption) ?_
        rotate_left
        first | (focus ((intro w hSw; (try dsimp only at hSw); go_simp); (try with_reducible rfl); done)) | fail
        try simp only [Act.put, List.getElem_toArray, List.getElem_cons_zero, List.getElem_cons_succ, List.setIfInBounds_toArray, List.set_cons_zero, List.set_cons_succ]
        refine wpAnyH_take (i := 11) (v := ?_) rfl (by kernel_rfl) (by kernel_rfl) (by kernel_rfl) (fun _ _ _ h => h) (Or.inl ⟨by rfl, ?_⟩) (by assumption) ?_
        rotate_left
        first | (focus ((intro w hSw; (try dsimp only at hSw); go_simp); (try with_reducible rfl); done)) | fail
        try simp only [Act.put, List.getElem_toArray, List.getElem_cons_zero, List.getElem_cons_succ, List.setIfInBounds_toArray, List.set_cons_zero, List.set_cons_succ]
        refine wpAnyH_take (i := 13) (v := ?_) rfl (by kernel_rfl) (by kernel_rfl) (by kernel_rfl) (fun _ _ _ h => h) (Or.inl ⟨by rfl, ?_⟩) (by assumption) ?_
        rotate_left
        first | (focus ((intro w hSw; (try dsimp only at hSw); go_simp); (try with_reducible rfl); done)) | fail
        try simp only [Act.put, List.getElem_toArray, List.getElem_cons_zero, List.getElem_cons_succ, List.setIfInBounds_toArray, List.set_cons_zero, List.set_cons_succ]
        refine wpAnyH_take (i := 14) (v := ?_) rfl (by kernel_rfl) (by kernel_rfl) (by kernel_rfl) (fun _ _ _ h => h) (Or.inl ⟨by rfl, ?_⟩) (by assumption) ?_
        rotate_left
        first | (focus ((intro w hSw; (try dsimp only at hSw); go_simp); (try with_reducible rfl); done)) | fail
        try simp only [Act.put, List.getElem_toArray, List.getElem_cons_zero, List.getElem_cons_succ, List.setIfInBounds_toArray, List.set_cons_zero, List.set_cons_succ]
        refine wpAnyH_ready (rs := [4]) (by kernel_rfl) (by simp) ?_
        refine AllReadyH.cons rfl (fun K hK => ?_) AllReadyH.nil
        go_simp
        refine (CT1.out).mono ?_; rintro r w8 ⟨A8, c8, rfl, hw8, st8⟩; have P8 := Lib.hid (P7d.out.step hw8 st8); clear hw8 st8
        go_wp2_with fail
        refine hK.out _ _ ?_ (fun hHeld => ?_)
        · (try dsimp only); exact P8.out.strs
        clear hK K
        try simp only [Act.put, List.getElem_toArray, List.getElem_cons_zero, List.getElem_cons_succ, List.setIfInBounds_toArray, List.set_cons_zero, List.set_cons_succ]
        refine wpAnyH_ready (rs := [8]) (by kernel_rfl) (by simp) ?_
        refine AllReadyH.cons rfl (fun K hK => ?_) AllReadyH.nil
        go_simp
        refine (CT2.out w8 A8 c8 P8.out.wr P8.out.sz).mono ?_; rintro r w9 ⟨A9, c9, rfl, hw9, st9⟩; have P9 := Lib.hid (P8.out.step hw9 st9); clear hw9 st9
        go_wp2_with fail
        refine hK.out _ _ ?_ (fun hHeld => ?_)
        · (try dsimp only); exact P9.out.strs
        clear hK K
        try simp only [Act.put, List.getElem_toArray, List.getElem_cons_zero, List.getElem_cons_succ, List.setIfInBounds_toArray, List.set_cons_zero, List.set_cons_succ]
        refine wpAnyH_ready (rs := [12]) (by kernel_rfl) (by simp) ?_
        refine AllReadyH.cons rfl (fun K hK => ?_) AllReadyH.nil
        go_simp
        refine (CT3.out w9 A9 c9 P9.out.wr P9.out.sz).mono ?_; rintro r wa ⟨Aa, ca, rfl, hwa, sta⟩; have Pa := Lib.hid (P9.out.step hwa sta); clear hwa sta
        go_wp2_with fail
        refine hK.out _ _ ?_ (fun hHeld => ?_)
        · (try dsimp only); exact Pa.out.strs
        clear hK K
        try simp only [Act.put, List.getElem_toArray, List.getElem_cons_zero, List.getElem_cons_succ, List.setIfInBounds_toArray, List.set_cons_zero, List.set_cons_succ]
        refine wpAnyH_ready (rs := [15]) (by kernel_rfl) (by simp) ?_
        refine AllReadyH.cons rfl (fun K hK => ?_) AllReadyH.nil
        go_simp
        refine (CT4.out wa Aa ca Pa.out.wr Pa.out.sz).mono ?_; rintro r wb ⟨Ab, cb, rfl, hwb, stb⟩; have Pb := Lib.hid (Pa.out.step hwb stb); clear hwb stb
        go_wp2_with fail
        refine hK.out _ _ ?_ (fun hHeld => ?_)
        · (try dsimp only); exact Pb.out.strs
        clear hK K
        try simp only [Act.put, List.getElem_toArray, List.getElem_cons_zero, List.getElem_cons_succ, List.setIfInBounds_toArray, List.set_cons_zero, List.set_cons_succ]
        refine wpAnyH_done (by kernel_rfl) ?_ _
        clear y0y y1y y2y y3y y4y y5y y6y y7y y8y y9y y18y z0 z1 z2 z3 z4 z5 z6 z7 P7 P7d P8 P9 Pa CT1 CT2 CT3 CT4
        have Pbd := Lib.hid (Pb.out.low (Below.refl _ _).drew)
        have y6 : IntKind.u64.wrap e.cre = (cn : Int) := by rw [hcn, IntKind.wrap_u64]; have := tms.out; omega
        have y7 : IntKind.u64.wrap e.acc = (an : Int) := by rw [han, IntKind.wrap_u64]; have := tms.out; omega
        have CI1 := Lib.hid (CI.out wb.drew Ab cb M4 Pbd.out.wr Pbd.out.sz (by have := n4.out; omega))
        have CN2 := Lib.hid (fun W A c h hb => CN.out cn (by have := tms.out; omega) W A c (M4 ++ vput (foldI e.exp).toNat) h hb (by have := n5.out; omega))
        have CN3 := Lib.hid (fun W A c h hb => CN.out an (by have := tms.out; omega) W A c ((M4 ++ vput (foldI e.exp).toNat) ++ vput cn) h hb (by have := n6.out; omega))
        clear CI CN hcn han
        go_upto_region 14 with fail
        refine wp_region_held_drew (S := (fun W => W.cell? ⟨C, 5, none⟩ = some (.int .i64 e.exp) ∧ W.cell? ⟨C, 6, none⟩ = some (.int .i64 e.cre) ∧ W.cell? ⟨C, 7, none⟩ = some (.int .i64 e.acc))) (by kernel_rfl) ?_ (fun hHeld => ?_)
        · (try dsimp only); exact Pb.out.nums
        refine wpAnyH_take (i := 0) (v := ?_) rfl (by kernel_rfl) (by kernel_rfl) (by kernel_rfl) (fun _ _ _ h => h) (Or.inl ⟨by rfl, ?_⟩) (by assumption) ?_
        rotate_left
        first | (focus ((intro w hSw; (try dsimp only at hSw); go_simp); (try with_reducible rfl); done)) | fail
        try simp only [Act.put, List.getElem_toArray, List.getElem_cons_zero, List.setIfInBounds_toArray, List.set_cons_zero, List.set_cons_succ]
        refine wpAnyH_take (i := 1) (v := ?_) rfl (by kernel_rfl) (by kernel_rfl) (by kernel_rfl) (fun _ _ _ h => h) (Or.inl ⟨by rfl, ?_⟩) (by assumption) ?_
        rotate_left
        first | (focus ((intro w hSw; (try dsimp only at hSw); go_simp); (try with_reducible rfl); done)) | fail
        try simp only [Act.put, List.getElem_toArray, List.getElem_cons_zero, List.getElem_cons_succ, List.setIfInBounds_toArray, List.set_cons_zero, List.set_cons_succ]
        refine wpAnyH_take (i := 2) (v := ?_) rfl (by kernel_rfl) (by kernel_rfl) (by kernel_rfl) (fun _ _ _ h => h) (Or.inl ⟨by rfl, ?_⟩) (by assumption) ?_
        rotate_left
        first | (focus ((intro w hSw; (try dsimp only at hSw); go_simp); (try with_reducible rfl); done)) | fail
        try simp only [Act.put, List.getElem_toArray, List.getElem_cons_zero, List.getElem_cons_succ, List.setIfInBounds_toArray, List.set_cons_zero, List.set_cons_succ]
        refine wpAnyH_take (i := 4) (v := ?_) rfl (by kernel_rfl) (by kernel_rfl) (by kernel_rfl) (fun _ _ _ h => h) (Or.inl ⟨by rfl, ?_⟩) (by assumption) ?_
        rotate_left
        first | (focus ((intro w hSw; (try dsimp only at hSw); go_simp); (try with_reducible rfl); done)) | fail
        try simp only [Act.put, List.getElem_toArray, List.getElem_cons_zero, List.getElem_cons_succ, List.setIfInBounds_toArray, List.set_cons_zero, List.set_cons_succ]
        refine wpAnyH_take (i := 5) (v := ?_) rfl (by kernel_rfl) (by kernel_rfl) (by kernel_rfl) (fun _ _ _ h => h) (Or.inl ⟨by rfl, ?_⟩) (by assumption) ?_
        rotate_left
        first | (focus ((intro w hSw; (try dsimp only at hSw); go_simp); (try with_reducible rfl); done)) | fail
        try simp only [Act.put, List.getElem_toArray, List.getElem_cons_zero, List.getElem_cons_succ, List.setIfInBounds_toArray, List.set_cons_zero, List.set_cons_succ]
        refine wpAnyH_take (i := 6) (v := ?_) rfl (by kernel_rfl) (by kernel_rfl) (by kernel_rfl) (fun _ _ _ h => h) (Or.inl ⟨by rfl, ?_⟩) (by assumption) ?_
        rotate_left
        first | (focus ((intro w hSw; (try dsimp only at hSw); go_simp); (try with_reducible rfl); done)) | fail
        try simp only [Act.put, List.getElem_toArray, List.getElem_cons_zero, List.getElem_cons_succ, List.setIfInBounds_toArray, List.set_cons_zero, List.set_cons_succ]
        refine wpAnyH_take (i := 8) (v := ?_) rfl (by kernel_rfl) (by kernel_rfl) (by kernel_rfl) (fun _ _ _ h => h) (Or.inl ⟨by rfl, ?_⟩) (by assumption) ?_
        rotate_left
        first | (focus ((intro w hSw; (try dsimp only at hSw); go_simp); (try with_reducible rfl); done)) | fail
        try simp only [Act.put, List.getElem_toArray, List.getElem_cons_zero, List.getElem_cons_succ, List.setIfInBounds_toArray, List.set_cons_zero, List.set_cons_succ]
        refine wpAnyH_take (i := 9) (v := ?_) rfl (by kernel_rfl) (by kernel_rfl) (by kernel_rfl) (fun _ _ _ h => h) (Or.inl ⟨by rfl, ?_⟩) (by assumption) ?_
        rotate_left
        first | (focus ((intro w hSw; (try dsimp only at hSw); go_simp); (try with_reducible rfl); done)) | fail
        try simp only [Act.put, List.getElem_toArray, List.getElem_cons_zero, List.getElem_cons_succ, List.setIfInBounds_toArray, List.set_cons_zero, List.set_cons_succ]
        refine wpAnyH_take (i := 10) (v := ?_) rfl (by kernel_rfl) (by kernel_rfl) (by kernel_rfl) (fun _ _ _ h => h) (Or.inl ⟨by rfl, ?_⟩) (by assumption) ?_
        rotate_left
        first | (focus ((intro w hSw; (try dsimp only at hSw); go_simp); (try with_reducible rfl); done)) | fail
        try simp only [Act.put, List.getElem_toArray, List.getElem_cons_zero, List.getElem_cons_succ, List.setIfInBounds_toArray, List.set_cons_zero, List.set_cons_succ]
        refine wpAnyH_ready (rs := [3]) (by kernel_rfl) (by simp) ?_
        refine AllReadyH.cons rfl (fun K hK => ?_) AllReadyH.nil
        go_simp
        refine (CI1.out).mono ?_; rintro r wc ⟨Ac, cc, rfl, hwc, stc⟩; have Pc := Lib.hid (Pbd.out.step hwc stc); clear hwc stc
        go_wp2_with fail
        refine hK.out _ _ ?_ (fun hHeld => ?_)
        · (try dsimp only); exact Pc.out.nums
        clear hK K
        try simp only [Act.put, List.getElem_toArray, List.getElem_cons_zero, List.getElem_cons_succ, List.setIfInBounds_toArray, List.set_cons_zero, List.set_cons_succ]
        refine wpAnyH_ready (rs := [7]) (by kernel_rfl) (by simp) ?_
        refine AllReadyH.cons rfl (fun K hK => ?_) AllReadyH.nil
        go_simp
        refine (CN2.out wc Ac cc Pc.out.wr Pc.out.sz).mono ?_; rintro r wd ⟨Ad, cd, rfl, hwd, std⟩; have Pd := Lib.hid (Pc.out.step hwd std); clear hwd std
        go_wp2_with fail
        refine hK.out _ _ ?_ (fun hHeld => ?_)
        · (try dsimp only); exact Pd.out.nums
        clear hK K
        try simp only [Act.put, List.getElem_toArray, List.getElem_cons_zero, List.getElem_cons_succ, List.setIfInBounds_toArray, List.set_cons_zero, List.set_cons_succ]
        refine wpAnyH_ready (rs := [11]) (by kernel_rfl) (by simp) ?_
        refine AllReadyH.cons rfl (fun K hK => ?_) AllReadyH.nil
        go_simp
        refine (CN3.out wd Ad cd Pd.out.wr Pd.out.sz).mono ?_; rintro r we ⟨Ae, ce, rfl, hwe, ste⟩; have Pe := Lib.hid (Pd.out.step hwe ste); clear hwe ste
        go_wp2_with fail
        refine hK.out _ _ ?_ (fun hHeld => ?_)
        · (try dsimp only); exact Pe.out.nums
        clear hK K
        try simp only [Act.put, List.getElem_toArray, List.getElem_cons_zero, List.getElem_cons_succ, List.setIfInBounds_toArray, List.set_cons_zero, List.set_cons_succ]
        refine wpAnyH_done (by kernel_rfl) ?_ _
        go_wp2
        first | go_end0 | refine bodyPost_ret (results_none rfl _ _ _) rfl ?_
        exact ⟨Ae, ce, rfl, by rw [HLS.out]; exact Pe.out.wr, Pe.out.st⟩
      · have t1 : (e.kind == 1) = false := by rw [beq_eq_false_iff_ne]; exact hk1
        have HLR := Lib.hid (show LL = L7 by rw [HLQ.out, if_neg hk1, List.append_nil])
        clear hk1
        go_wp2
        first | go_end0 | refine bodyPost_ret (results_none rfl _ _ _) rfl ?_
        exact ⟨A7, c7', rfl, by rw [HLR.out]; exact P7.out.wr, P7.out.st⟩
end Go.Proofs.YtpakmeegldgjmaaGreat
