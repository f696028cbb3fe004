/- TopWire: part 7 of what the proof rests on: contracts of functions, and plain laws. -/
import Derived.WalkKit
import Derived.ProofKit
import Derived.OpenShut
import Derived.Handy
import Derived.Outline
import Derived.Lib.Hide
import Derived.Deep.Draws
import Derived.Laws.OwnMore
import Derived.Laws.AppendOwn
import Derived.Laws.AppendOwnNone
import Derived.Laws.BitsAllLaws
import Derived.Laws.Bits64b
import Derived.Lib.AppendZeros
import Derived.Lib.AppendZerosOnto
import Derived.Laws.CopyRow
import Derived.Lib.AppendStr
import Derived.Test.YtpakmeegldgjmaaGreatRows
import Derived.Lib.Zigzag
import Derived.Deep.QuietTactic
import Derived.BigQuiet
import Derived.Deep.LoopGhost
import Derived.BigRegion
import Derived.RegionTactic
import Derived.Deep.WholeRow
import Derived.Deep.Slices
import Derived.Lib.Varint
import Derived.WalkSpells
import Derived.Laws.BytesString
import Derived.Laws.Concat
import Derived.IntWalk
import Derived.Test.YtpakmeegldgjmaaGreatProg
import Derived.Deep.RegionHeld3
import Derived.StillTailTactics
import Derived.Laws.StructEq
import Derived.Lib.SmallJoins
import Derived.Deep.Strs
import Derived.Laws.IdiomStrings
import Derived.Lib.SlBytesConst
import Derived.Deep.RegionWith
import Derived.Maps.Own
import Derived.Maps.OwnSet
import Derived.Maps.Range
import Derived.DeepKeys4
import Derived.ChangeKeysEq
import Derived.DeepKeys2
import Derived.RangeFuncNested
import Derived.RangeFuncBound
import Derived.RangeFuncCalls
import Derived.RangeFuncLeaves
import Derived.Sort.MapsRangeIn
import Derived.OwnWalkIn
import Derived.TacticsInMore
import Derived.RegionIn
import Derived.LoopNIn
import Derived.LoopIn
import Derived.Maps.AppendAt
import Derived.Sort.Grow
import Derived.Shelf.GgSortFunc.InsertionK
import Derived.Shelf.SlSortCmp.NoneTotal
import Derived.WideKeyEntry
import Derived.Deep.CutBlock
import Derived.Deep.CutRange
import Derived.Deep.RegionLaw
import Derived.Deep.DeepCutAuto
import Derived.Deep.DrawnRows
import Derived.WalkLawsBesides
import Derived.Deep.MidRow
import Derived.Laws.Strings2
import Derived.Test.YtpakmeegldgjmaaGreatKTopWire06
/- Layer 35 (msg): Right, by the document. -/
namespace Go.Proofs.YtpakmeegldgjmaaGreat
open Go.RowKit
set_option linter.unusedVariables false
set_option linter.unusedSimpArgs false
set_option maxRecDepth 100000
attribute [local go_sem ↓] Go.wp_at_zero Go.wp_at_succ
attribute [local go_sem] bs_size bs_list bs_nil_list

set_option maxHeartbeats 16000000 in
theorem rmright_any (x : Ml) (w : World) (h : MlAt w w.heap.size x) (ok : MlOk x) : Calls Tryz.prog 8 #[.agg (mlC x)] w fun r w' => r = .returned (.bool (msB (mlM x))) ∧ Below w.heap.size w w' := by
  have CK := Lib.hid (fun (W : World) (hb : Below w.heap.size w W) => rcheck17_any W x.Am x.cm x.marks (MsAt.up h.mks hb) (by have := ok.lm; omega))
  have hb := (Below.refl w.heap.size w).alloc (Nat.le_refl _) (.cells (mlC x) 30)
  have hW := Whole.new w 30 (mlC x)
  have hlm := ok.lm
  have hle := ok.le
  have HSH := Lib.hid ok.sh
  have HEs := Lib.hid h.es
  obtain ⟨kind, frm, dst, marks, Am, cm, es, Ae, ce⟩ := x
  clear h ok
  unfold mlC at hb hW ⊢
  simp only at CK hb hW hlm hle HSH HEs ⊢
  have HVM := Lib.hid (show (decide (marks = [])) = decide (marks.length = 0) by rw [Bool.eq_iff_iff, decide_eq_true_eq, decide_eq_true_eq]; exact List.length_eq_zero_iff.symm)
  have HVE := Lib.hid (show (decide (eds es = [])) = decide (es.length = 0) by rw [Bool.eq_iff_iff, decide_eq_true_eq, decide_eq_true_eq]; unfold eds; rw [List.map_eq_nil_iff]; exact List.length_eq_zero_iff.symm)
  have HVL := Lib.hid (show riseB (eds es) = (riseG none (eds es) && decide (es.length ≤ 256)) by unfold riseB; rw [show (eds es).length = es.length by simp [eds]])
  generalize hnm : marks.length = nm at *
  generalize hne : es.length = ne at *
  have HLn := Lib.hid hne
  have HB := Lib.hid hb
  have HW := Lib.hid hW
  clear hnm hne hb hW
  by_cases h1 : 0 ≤ frm
  · have t1 : decide (frm < 0) = false := decide_eq_false (by omega)
    by_cases h2 : frm < 64
    · have t2 : decide ((63 : Int) < frm) = false := decide_eq_false (by omega)
      by_cases h3 : 0 ≤ dst
      · have t3 : decide (dst < 0) = false := decide_eq_false (by omega)
        by_cases h4 : dst < 64
        · have t4 : decide ((63 : Int) < dst) = false := decide_eq_false (by omega)
          by_cases h5 : frm = dst
          · have t5 : (frm == dst) = true := by simp [h5]
            have HX := Lib.hid (show msB (mlM ⟨kind, frm, dst, marks, Am, cm, es, Ae, ce⟩) = false from by unfold msB mlM devB; simp only; rw [decide_eq_false (show ¬ frm ≠ dst from fun h => h h5)]; simp)
            clear h1 h2 h3 h4 h5 CK HVM HVE HVL HEs HSH HLn
            go_enter Tryz.func8, Tryz.ntmps8
            go_wp2
            go_ret
            exact ⟨ret_bool HX.out.symm, HB.out⟩
          · have hd : (devB frm && devB dst && decide (frm ≠ dst)) = true := by unfold devB; rw [decide_eq_true h1, decide_eq_true (show frm < 64 by omega), decide_eq_true h3, decide_eq_true (show dst < 64 by omega), decide_eq_true h5]; rfl
            have t5 : (frm == dst) = false := by simp [h5]
            clear h1 h2 h3 h4 h5
            by_cases hk2 : kind = 2
            · have hk := hk2
              clear hk2
              subst hk
              have HM := Lib.hid (show msB (mlM ⟨2, frm, dst, marks, Am, cm, es, Ae, ce⟩) = (decide (nm = 0) && riseB (eds es)) from by unfold msB mlM; simp only; rw [hd, HVM.out]; rfl)
              clear hd HVM HVE CK
              by_cases hz : nm = 0
              · by_cases h256 : ne ≤ 256
                · have tz : decide ((0 : Int) < (nm : Int)) = false := decide_eq_false (by omega)
                  have tz2 : decide (0 < nm) = false := decide_eq_false (by omega)
                  have tl : decide ((256 : Int) < (ne : Int)) = false := decide_eq_false (by omega)
                  have tl2 : decide (256 < ne) = false := decide_eq_false (by omega)
                  have HM := Lib.hid (HM.out.trans (by rw [decide_eq_true hz, Bool.true_and]))
                  have HVL := Lib.hid (HVL.out.trans (by rw [decide_eq_true h256, Bool.and_true]))
                  clear hz
                  go_enter Tryz.func8, Tryz.ntmps8
                  go_wp2_with fail
                  have hE1 : w.heap.size < (w.alloc (.cells #[.int .i64 2, .int .i64 frm, .int .i64 dst, .slice Am nm cm, .slice Ae ne ce] 30)).heap.size := HW.out.lt
                  generalize hW0 : (w.alloc (.cells #[.int .i64 2, .int .i64 frm, .int .i64 dst, .slice Am nm cm, .slice Ae ne ce] 30)) = W0 at *
                  clear hW0
                  generalize hE : w.heap.size = E at *
                  have HN := Lib.hid hE
                  clear hE
                  go_loopw [3] (fun i wr => ∃ j : Nat, j ≤ ne ∧ i = .int .i64 j ∧ (∀ k x, k < j → (eds es)[k]? = some x → okEd (prevD none (eds es) k) x = true) ∧ Below W0.heap.size W0 wr) (fun i _ => ne - (intOf i).toNat)
                  case atStart => exact ⟨0, by omega, rfl, fun k x hk => absurd hk (by omega), Below.refl _ _⟩
                  case round =>
                    obtain ⟨j, hj, rfl, hk, hb⟩ := hrel
                    have HK := Lib.hid (And.intro hk hb)
                    clear hk hb
                    have hWr := HW.out.below HK.out.2 hE1
                    have c4 : wr.cell? ⟨E, 4, none⟩ = some (.slice Ae ne ce) := by rw [hWr.cell]; rfl
                    have hEl : E < wr.heap.size := hWr.lt
                    have hNW : W0.heap.size ≤ wr.heap.size := HK.out.2.size
                    have hEN : E ≤ W0.heap.size := by omega
                    have HEsr := Lib.hid (HEs.out.below (HB.out.trans (below_of_le HK.out.2 hEN)))
                    by_cases hlt : j < ne
                    · obtain ⟨x, hx⟩ : ∃ x, es[j]? = some x := ⟨es[j]'(by have := HLn.out; omega), List.getElem?_eq_getElem _⟩
                      obtain ⟨b0, o0, hA, hbN, hrg, hds⟩ := HEsr.out.at_ hx
                      subst hA
                      have HXj := Lib.hid (eds_get hx)
                      have hsx := HSH.out x (List.mem_of_getElem? hx)
                      have CR0 : ∀ (W : World), MsAt W x.A x.e.over → Calls Tryz.prog 26 #[.agg (evA x.e x.A x.c)] W fun r w' => r = .returned (.bool (evB x.e)) ∧ Below W.heap.size W w' := fun W hm => rright20_any x.e x.A x.c W hm hsx
                      have MO := Lib.hid (fun (W : World) (h : Below wr.heap.size wr W) => show MsAt W x.A x.e.over from (Ds.more (Ds.below hds (below_of_le h (by omega))) (by have := h.size; omega)))
                      have hbl : b0 < wr.heap.size := by omega
                      have HS := Lib.hid (And.intro c4 hrg)
                      go_upto_region 10 with fail
                      clear hx hrg hds hsx hWr c4
                      by_cases hj0 : j = 0
                      · subst hj0
                        have HPV := Lib.hid (show prevD none (eds es) 0 = none from rfl)
                        cases hr : evB x.e with
                        | false =>
                          rw [hr] at CR0
                          have CR := Lib.hid CR0
                          clear CR0
                          have hr' := hr
                          clear hr
                          have HX := Lib.hid (show okEd (prevD none (eds es) 0) x.e = false from by unfold okEd; rw [hr']; rfl)
                          clear hr'
                          refine wp_region_held_drew (S := (fun W => W.cell? ⟨E, 4, none⟩ = some (.slice (some ⟨b0, o0, none⟩) ne ce) ∧ W.rangeAt b0 (o0 + 0 * 19) (evA x.e x.A x.c).toList)) (by kernel_rfl) ?_ (fun hHeld => ?_)
                          · (try dsimp only); exact HS.out
                          refine wpAnyH_take (i := 0) (v := ?_) rfl (by kernel_rfl) (by kernel_rfl) (by kernel_rfl) (fun _ _ _ h => h) (Or.inl ⟨by rfl, ?_⟩) (by assumption) ?_
                          rotate_left
                          first | (focus ((intro w hSw; (try dsimp only at hSw); go_simp); (try with_reducible rfl); done)) | fail
                          try simp only [Act.put, List.getElem_toArray, List.getElem_cons_zero, List.setIfInBounds_toArray, List.set_cons_zero, List.set_cons_succ]
                          refine wpAnyH_take (i := 1) (v := ?_) rfl (by kernel_rfl) (by kernel_rfl) (by kernel_rfl) (fun _ _ _ h => h) (Or.inl ⟨by rfl, ?_⟩) (by assumption) ?_
                          rotate_left
                          first | (focus ((intro w hSw; (try dsimp only at hSw); go_simp); (try with_reducible rfl); done)) | fail
                          try simp only [Act.put, List.getElem_toArray, List.getElem_cons_zero, List.getElem_cons_succ, List.setIfInBounds_toArray, List.set_cons_zero, List.set_cons_succ]
                          refine wpAnyH_take (i := 2) (v := ?_) rfl (by kernel_rfl) (by kernel_rfl) (by kernel_rfl) (fun _ _ _ h => h) (Or.inl ⟨by rfl, ?_⟩) (by assumption) ?_
                          rotate_left
                          first | (focus ((intro w hSw; (try dsimp only at hSw); go_simp); (try with_reducible rfl); done)) | fail
                          try simp only [Act.put, List.getElem_toArray, List.getElem_cons_zero, List.getElem_cons_succ, List.setIfInBounds_toArray, List.set_cons_zero, List.set_cons_succ]
                          refine wpAnyH_take (i := 3) (v := ?_) rfl (by kernel_rfl) (by kernel_rfl) (by kernel_rfl) (fun _ _ _ h => h) (Or.inl ⟨by rfl, ?_⟩) (by assumption) ?_
                          rotate_left
                          first | (focus ((intro w hSw; (try dsimp only at hSw); go_simp); (try with_reducible rfl); done)) | fail
                          try simp only [Act.put, List.getElem_toArray, List.getElem_cons_zero, List.getElem_cons_succ, List.setIfInBounds_toArray, List.set_cons_zero, List.set_cons_succ]
                          refine wpAnyH_take (i := 4) rfl (by kernel_rfl) (by kernel_rfl) (by kernel_rfl) (fun _ _ _ h => h) (take_range (by rfl) _ rfl rfl (fun W h => h.2) Tryz.underlying59 rfl (by kernel_rfl)) (by assumption) ?_
                          try simp only [Act.put, List.getElem_toArray, List.getElem_cons_zero, List.getElem_cons_succ, List.setIfInBounds_toArray, List.set_cons_zero, List.set_cons_succ]
                          refine wpAnyH_ready (rs := [5]) (by kernel_rfl) (by simp) ?_
                          refine AllReadyH.cons rfl (fun K hK => ?_) AllReadyH.nil
                          go_simp
                          refine (CR.out _ (MO.out _ (Below.drew (Below.refl _ _)))).mono ?_; rintro r w5 ⟨rfl, b5⟩
                          go_wp2_with fail
                          refine hK.out _ _ ?_ (fun hHeld => ?_)
                          · (try dsimp only); exact ⟨(b5.cell (show _ < _ from hEl)).trans hHeld.1, range_below hHeld.2 b5 hbl⟩
                          clear hK K
                          try simp only [Act.put, List.getElem_toArray, List.getElem_cons_zero, List.getElem_cons_succ, List.setIfInBounds_toArray, List.set_cons_zero, List.set_cons_succ]
                          have B5 := Lib.hid b5
                          clear b5
                          refine wpAnyH_take (i := 6) (v := ?_) rfl (by kernel_rfl) (by kernel_rfl) (by kernel_rfl) (fun _ _ _ h => h) (Or.inl ⟨by rfl, ?_⟩) (by assumption) ?_
                          rotate_left
                          first | (focus ((intro w hSw; (try dsimp only at hSw); go_simp); (try with_reducible rfl); done)) | fail
                          try simp only [Act.put, List.getElem_toArray, List.getElem_cons_zero, List.getElem_cons_succ, List.setIfInBounds_toArray, List.set_cons_zero, List.set_cons_succ]
                          refine wpAnyH_take (i := 7) (v := ?_) rfl (by kernel_rfl) (by kernel_rfl) (by kernel_rfl) (fun _ _ _ h => h) (Or.inl ⟨by rfl, ?_⟩) (by assumption) ?_
                          rotate_left
                          first | (focus ((intro w hSw; (try dsimp only at hSw); go_simp); (try with_reducible rfl); done)) | fail
                          try simp only [Act.put, List.getElem_toArray, List.getElem_cons_zero, List.getElem_cons_succ, List.setIfInBounds_toArray, List.set_cons_zero, List.set_cons_succ]
                          refine wpAnyH_take (i := 8) (v := undef) rfl (by kernel_rfl) (by kernel_rfl) (by kernel_rfl) (fun _ _ _ h => h) (Or.inr ⟨by rfl, rfl⟩) (by assumption) ?_
                          try simp only [Act.put, List.getElem_toArray, List.getElem_cons_zero, List.getElem_cons_succ, List.setIfInBounds_toArray, List.set_cons_zero, List.set_cons_succ]
                          refine wpAnyH_take (i := 9) (v := undef) rfl (by kernel_rfl) (by kernel_rfl) (by kernel_rfl) (fun _ _ _ h => h) (Or.inr ⟨by rfl, rfl⟩) (by assumption) ?_
                          try simp only [Act.put, List.getElem_toArray, List.getElem_cons_zero, List.getElem_cons_succ, List.setIfInBounds_toArray, List.set_cons_zero, List.set_cons_succ]
                          refine wpAnyH_take (i := 10) (v := undef) rfl (by kernel_rfl) (by kernel_rfl) (by kernel_rfl) (fun _ _ _ h => h) (Or.inr ⟨by rfl, rfl⟩) (by assumption) ?_
                          try simp only [Act.put, List.getElem_toArray, List.getElem_cons_zero, List.getElem_cons_succ, List.setIfInBounds_toArray, List.set_cons_zero, List.set_cons_succ]
                          refine wpAnyH_take (i := 11) (v := undef) rfl (by kernel_rfl) (by kernel_rfl) (by kernel_rfl) (fun _ _ _ h => h) (Or.inr ⟨by rfl, rfl⟩) (by assumption) ?_
                          try simp only [Act.put, List.getElem_toArray, List.getElem_cons_zero, List.getElem_cons_succ, List.setIfInBounds_toArray, List.set_cons_zero, List.set_cons_succ]
                          refine wpAnyH_take (i := 12) (v := undef) rfl (by kernel_rfl) (by kernel_rfl) (by kernel_rfl) (fun _ _ _ h => h) (Or.inr ⟨by rfl, rfl⟩) (by assumption) ?_
                          try simp only [Act.put, List.getElem_toArray, List.getElem_cons_zero, List.getElem_cons_succ, List.setIfInBounds_toArray, List.set_cons_zero, List.set_cons_succ]
                          refine wpAnyH_take (i := 13) (v := undef) rfl (by kernel_rfl) (by kernel_rfl) (by kernel_rfl) (fun _ _ _ h => h) (Or.inr ⟨by rfl, rfl⟩) (by assumption) ?_
                          try simp only [Act.put, List.getElem_toArray, List.getElem_cons_zero, List.getElem_cons_succ, List.setIfInBounds_toArray, List.set_cons_zero, List.set_cons_succ]
                          refine wpAnyH_take (i := 14) (v := undef) rfl (by kernel_rfl) (by kernel_rfl) (by kernel_rfl) (fun _ _ _ h => h) (Or.inr ⟨by rfl, rfl⟩) (by assumption) ?_
                          try simp only [Act.put, List.getElem_toArray, List.getElem_cons_zero, List.getElem_cons_succ, List.setIfInBounds_toArray, List.set_cons_zero, List.set_cons_succ]
                          refine wpAnyH_take (i := 15) (v := undef) rfl (by kernel_rfl) (by kernel_rfl) (by kernel_rfl) (fun _ _ _ h => h) (Or.inr ⟨by rfl, rfl⟩) (by assumption) ?_
                          try simp only [Act.put, List.getElem_toArray, List.getElem_cons_zero, List.getElem_cons_succ, List.setIfInBounds_toArray, List.set_cons_zero, List.set_cons_succ]
                          refine wpAnyH_take (i := 16) (v := undef) rfl (by kernel_rfl) (by kernel_rfl) (by kernel_rfl) (fun _ _ _ h => h) (Or.inr ⟨by rfl, rfl⟩) (by assumption) ?_
                          try simp only [Act.put, List.getElem_toArray, List.getElem_cons_zero, List.getElem_cons_succ, List.setIfInBounds_toArray, List.set_cons_zero, List.set_cons_succ]
                          refine wpAnyH_take (i := 17) (v := undef) rfl (by kernel_rfl) (by kernel_rfl) (by kernel_rfl) (fun _ _ _ h => h) (Or.inr ⟨by rfl, rfl⟩) (by assumption) ?_
                          try simp only [Act.put, List.getElem_toArray, List.getElem_cons_zero, List.getElem_cons_succ, List.setIfInBounds_toArray, List.set_cons_zero, List.set_cons_succ]
                          refine wpAnyH_take (i := 18) (v := undef) rfl (by kernel_rfl) (by kernel_rfl) (by kernel_rfl) (fun _ _ _ h => h) (Or.inr ⟨by rfl, rfl⟩) (by assumption) ?_
                          try simp only [Act.put, List.getElem_toArray, List.getElem_cons_zero, List.getElem_cons_succ, List.setIfInBounds_toArray, List.set_cons_zero, List.set_cons_succ]
                          refine wpAnyH_take (i := 19) (v := undef) rfl (by kernel_rfl) (by kernel_rfl) (by kernel_rfl) (fun _ _ _ h => h) (Or.inr ⟨by rfl, rfl⟩) (by assumption) ?_
                          try simp only [Act.put, List.getElem_toArray, List.getElem_cons_zero, List.getElem_cons_succ, List.setIfInBounds_toArray, List.set_cons_zero, List.set_cons_succ]
                          refine wpAnyH_take (i := 20) (v := undef) rfl (by kernel_rfl) (by kernel_rfl) (by kernel_rfl) (fun _ _ _ h => h) (Or.inr ⟨by rfl, rfl⟩) (by assumption) ?_
                          try simp only [Act.put, List.getElem_toArray, List.getElem_cons_zero, List.getElem_cons_succ, List.setIfInBounds_toArray, List.set_cons_zero, List.set_cons_succ]
                          refine wpAnyH_take (i := 21) (v := undef) rfl (by kernel_rfl) (by kernel_rfl) (by kernel_rfl) (fun _ _ _ h => h) (Or.inr ⟨by rfl, rfl⟩) (by assumption) ?_
                          try simp only [Act.put, List.getElem_toArray, List.getElem_cons_zero, List.getElem_cons_succ, List.setIfInBounds_toArray, List.set_cons_zero, List.set_cons_succ]
                          refine wpAnyH_take (i := 22) (v := undef) rfl (by kernel_rfl) (by kernel_rfl) (by kernel_rfl) (fun _ _ _ h => h) (Or.inr ⟨by rfl, rfl⟩) (by assumption) ?_
                          try simp only [Act.put, List.getElem_toArray, List.getElem_cons_zero, List.getElem_cons_succ, List.setIfInBounds_toArray, List.set_cons_zero, List.set_cons_succ]
                          refine wpAnyH_take (i := 23) (v := undef) rfl (by kernel_rfl) (by kernel_rfl) (by kernel_rfl) (fun _ _ _ h => h) (Or.inr ⟨by rfl, rfl⟩) (by assumption) ?_
                          try simp only [Act.put, List.getElem_toArray, List.getElem_cons_zero, List.getElem_cons_succ, List.setIfInBounds_toArray, List.set_cons_zero, List.set_cons_succ]
                          refine wpAnyH_take (i := 24) (v := undef) rfl (by kernel_rfl) (by kernel_rfl) (by kernel_rfl) (fun _ _ _ h => h) (Or.inr ⟨by rfl, rfl⟩) (by assumption) ?_
                          try simp only [Act.put, List.getElem_toArray, List.getElem_cons_zero, List.getElem_cons_succ, List.setIfInBounds_toArray, List.set_cons_zero, List.set_cons_succ]
                          refine wpAnyH_take (i := 25) (v := undef) rfl (by kernel_rfl) (by kernel_rfl) (by kernel_rfl) (fun _ _ _ h => h) (Or.inr ⟨by rfl, rfl⟩) (by assumption) ?_
                          try simp only [Act.put, List.getElem_toArray, List.getElem_cons_zero, List.getElem_cons_succ, List.setIfInBounds_toArray, List.set_cons_zero, List.set_cons_succ]
                          refine wpAnyH_take (i := 26) (v := undef) rfl (by kernel_rfl) (by kernel_rfl) (by kernel_rfl) (fun _ _ _ h => h) (Or.inr ⟨by rfl, rfl⟩) (by assumption) ?_
                          try simp only [Act.put, List.getElem_toArray, List.getElem_cons_zero, List.getElem_cons_succ, List.setIfInBounds_toArray, List.set_cons_zero, List.set_cons_succ]
                          refine wpAnyH_take (i := 27) (v := ?_) rfl (by kernel_rfl) (by kernel_rfl) (by kernel_rfl) (fun _ _ _ h => h) (Or.inl ⟨by rfl, ?_⟩) (by assumption) ?_
                          rotate_left
                          first | (focus ((intro w hSw; (try dsimp only at hSw); go_simp); (try with_reducible rfl); done)) | fail
                          try simp only [Act.put, List.getElem_toArray, List.getElem_cons_zero, List.getElem_cons_succ, List.setIfInBounds_toArray, List.set_cons_zero, List.set_cons_succ]
                          refine wpAnyH_done (by kernel_rfl) ?_ _
                          go_wp2
                          go_ret
                          exact ⟨ret_bool (by rw [HM.out, HVL.out, riseG_no HXj.out HX.out]), (by rw [HN.out]; exact HB.out.trans (below_of_le (HK.out.2.drew.trans (below_of_le B5.out hNW)) hEN))⟩
                        | true =>
                          rw [hr] at CR0
                          have CR := Lib.hid CR0
                          clear CR0
                          have hr' := hr
                          clear hr
                          have HX := Lib.hid (show okEd (prevD none (eds es) 0) x.e = true from by unfold okEd; rw [hr', HPV.out]; rfl)
                          clear hr'
                          refine wp_region_held_drew (S := (fun W => W.cell? ⟨E, 4, none⟩ = some (.slice (some ⟨b0, o0, none⟩) ne ce) ∧ W.rangeAt b0 (o0 + 0 * 19) (evA x.e x.A x.c).toList)) (by kernel_rfl) ?_ (fun hHeld => ?_)
                          · (try dsimp only); exact HS.out
                          refine wpAnyH_take (i := 0) (v := ?_) rfl (by kernel_rfl) (by kernel_rfl) (by kernel_rfl) (fun _ _ _ h => h) (Or.inl ⟨by rfl, ?_⟩) (by assumption) ?_
                          rotate_left
                          first | (focus ((intro w hSw; (try dsimp only at hSw); go_simp); (try with_reducible rfl); done)) | fail
                          try simp only [Act.put, List.getElem_toArray, List.getElem_cons_zero, List.setIfInBounds_toArray, List.set_cons_zero, List.set_cons_succ]
                          refine wpAnyH_take (i := 1) (v := ?_) rfl (by kernel_rfl) (by kernel_rfl) (by kernel_rfl) (fun _ _ _ h => h) (Or.inl ⟨by rfl, ?_⟩) (by assumption) ?_
                          rotate_left
                          first | (focus ((intro w hSw; (try dsimp only at hSw); go_simp); (try with_reducible rfl); done)) | fail
                          try simp only [Act.put, List.getElem_toArray, List.getElem_cons_zero, List.getElem_cons_succ, List.setIfInBounds_toArray, List.set_cons_zero, List.set_cons_succ]
                          refine wpAnyH_take (i := 2) (v := ?_) rfl (by kernel_rfl) (by kernel_rfl) (by kernel_rfl) (fun _ _ _ h => h) (Or.inl ⟨by rfl, ?_⟩) (by assumption) ?_
                          rotate_left
                          first | (focus ((intro w hSw; (try dsimp only at hSw); go_simp); (try with_reducible rfl); done)) | fail
                          try simp only [Act.put, List.getElem_toArray, List.getElem_cons_zero, List.getElem_cons_succ, List.setIfInBounds_toArray, List.set_cons_zero, List.set_cons_succ]
                          refine wpAnyH_take (i := 3) (v := ?_) rfl (by kernel_rfl) (by kernel_rfl) (by kernel_rfl) (fun _ _ _ h => h) (Or.inl ⟨by rfl, ?_⟩) (by assumption) ?_
                          rotate_left
                          first | (focus ((intro w hSw; (try dsimp only at hSw); go_simp); (try with_reducible rfl); done)) | fail
                          try simp only [Act.put, List.getElem_toArray, List.getElem_cons_zero, List.getElem_cons_succ, List.setIfInBounds_toArray, List.set_cons_zero, List.set_cons_succ]
                          refine wpAnyH_take (i := 4) rfl (by kernel_rfl) (by kernel_rfl) (by kernel_rfl) (fun _ _ _ h => h) (take_range (by rfl) _ rfl rfl (fun W h => h.2) Tryz.underlying59 rfl (by kernel_rfl)) (by assumption) ?_
                          try simp only [Act.put, List.getElem_toArray, List.getElem_cons_zero, List.getElem_cons_succ, List.setIfInBounds_toArray, List.set_cons_zero, List.set_cons_succ]
                          refine wpAnyH_ready (rs := [5]) (by kernel_rfl) (by simp) ?_
                          refine AllReadyH.cons rfl (fun K hK => ?_) AllReadyH.nil
                          go_simp
                          refine (CR.out _ (MO.out _ (Below.drew (Below.refl _ _)))).mono ?_; rintro r w5 ⟨rfl, b5⟩
                          go_wp2_with fail
                          refine hK.out _ _ ?_ (fun hHeld => ?_)
                          · (try dsimp only); exact ⟨(b5.cell (show _ < _ from hEl)).trans hHeld.1, range_below hHeld.2 b5 hbl⟩
                          clear hK K
                          try simp only [Act.put, List.getElem_toArray, List.getElem_cons_zero, List.getElem_cons_succ, List.setIfInBounds_toArray, List.set_cons_zero, List.set_cons_succ]
                          have B5 := Lib.hid b5
                          clear b5
                          refine wpAnyH_take (i := 6) (v := ?_) rfl (by kernel_rfl) (by kernel_rfl) (by kernel_rfl) (fun _ _ _ h => h) (Or.inl ⟨by rfl, ?_⟩) (by assumption) ?_
                          rotate_left
                          first | (focus ((intro w hSw; (try dsimp only at hSw); go_simp); (try with_reducible rfl); done)) | fail
                          try simp only [Act.put, List.getElem_toArray, List.getElem_cons_zero, List.getElem_cons_succ, List.setIfInBounds_toArray, List.set_cons_zero, List.set_cons_succ]
                          refine wpAnyH_take (i := 7) (v := ?_) rfl (by kernel_rfl) (by kernel_rfl) (by kernel_rfl) (fun _ _ _ h => h) (Or.inl ⟨by rfl, ?_⟩) (by assumption) ?_
                          rotate_left
                          first | (focus ((intro w hSw; (try dsimp only at hSw); go_simp); (try with_reducible rfl); done)) | fail
                          try simp only [Act.put, List.getElem_toArray, List.getElem_cons_zero, List.getElem_cons_succ, List.setIfInBounds_toArray, List.set_cons_zero, List.set_cons_succ]
                          refine wpAnyH_take (i := 8) (v := ?_) rfl (by kernel_rfl) (by kernel_rfl) (by kernel_rfl) (fun _ _ _ h => h) (Or.inl ⟨by rfl, ?_⟩) (by assumption) ?_
                          rotate_left
                          first | (focus ((intro w hSw; (try dsimp only at hSw); go_simp); (try with_reducible rfl); done)) | fail
                          try simp only [Act.put, List.getElem_toArray, List.getElem_cons_zero, List.getElem_cons_succ, List.setIfInBounds_toArray, List.set_cons_zero, List.set_cons_succ]
                          refine wpAnyH_take (i := 9) (v := ?_) rfl (by kernel_rfl) (by kernel_rfl) (by kernel_rfl) (fun _ _ _ h => h) (Or.inl ⟨by rfl, ?_⟩) (by assumption) ?_
                          rotate_left
                          first | (focus ((intro w hSw; (try dsimp only at hSw); go_simp); (try with_reducible rfl); done)) | fail
                          try simp only [Act.put, List.getElem_toArray, List.getElem_cons_zero, List.getElem_cons_succ, List.setIfInBounds_toArray, List.set_cons_zero, List.set_cons_succ]
                          refine wpAnyH_take (i := 10) (v := ?_) rfl (by kernel_rfl) (by kernel_rfl) (by kernel_rfl) (fun _ _ _ h => h) (Or.inl ⟨by rfl, ?_⟩) (by assumption) ?_
                          rotate_left
                          first | (focus ((intro w hSw; (try dsimp only at hSw); go_simp); (try with_reducible rfl); done)) | fail
                          try simp only [Act.put, List.getElem_toArray, List.getElem_cons_zero, List.getElem_cons_succ, List.setIfInBounds_toArray, List.set_cons_zero, List.set_cons_succ]
                          refine wpAnyH_take (i := 11) (v := undef) rfl (by kernel_rfl) (by kernel_rfl) (by kernel_rfl) (fun _ _ _ h => h) (Or.inr ⟨by rfl, rfl⟩) (by assumption) ?_
                          try simp only [Act.put, List.getElem_toArray, List.getElem_cons_zero, List.getElem_cons_succ, List.setIfInBounds_toArray, List.set_cons_zero, List.set_cons_succ]
                          refine wpAnyH_take (i := 12) (v := undef) rfl (by kernel_rfl) (by kernel_rfl) (by kernel_rfl) (fun _ _ _ h => h) (Or.inr ⟨by rfl, rfl⟩) (by assumption) ?_
                          try simp only [Act.put, List.getElem_toArray, List.getElem_cons_zero, List.getElem_cons_succ, List.setIfInBounds_toArray, List.set_cons_zero, List.set_cons_succ]
                          refine wpAnyH_take (i := 13) (v := undef) rfl (by kernel_rfl) (by kernel_rfl) (by kernel_rfl) (fun _ _ _ h => h) (Or.inr ⟨by rfl, rfl⟩) (by assumption) ?_
                          try simp only [Act.put, List.getElem_toArray, List.getElem_cons_zero, List.getElem_cons_succ, List.setIfInBounds_toArray, List.set_cons_zero, List.set_cons_succ]
                          refine wpAnyH_take (i := 14) (v := undef) rfl (by kernel_rfl) (by kernel_rfl) (by kernel_rfl) (fun _ _ _ h => h) (Or.inr ⟨by rfl, rfl⟩) (by assumption) ?_
                          try simp only [Act.put, List.getElem_toArray, List.getElem_cons_zero, List.getElem_cons_succ, List.setIfInBounds_toArray, List.set_cons_zero, List.set_cons_succ]
                          refine wpAnyH_take (i := 15) (v := undef) rfl (by kernel_rfl) (by kernel_rfl) (by kernel_rfl) (fun _ _ _ h => h) (Or.inr ⟨by rfl, rfl⟩) (by assumption) ?_
                          try simp only [Act.put, List.getElem_toArray, List.getElem_cons_zero, List.getElem_cons_succ, List.setIfInBounds_toArray, List.set_cons_zero, List.set_cons_succ]
                          refine wpAnyH_take (i := 16) (v := undef) rfl (by kernel_rfl) (by kernel_rfl) (by kernel_rfl) (fun _ _ _ h => h) (Or.inr ⟨by rfl, rfl⟩) (by assumption) ?_
                          try simp only [Act.put, List.getElem_toArray, List.getElem_cons_zero, List.getElem_cons_succ, List.setIfInBounds_toArray, List.set_cons_zero, List.set_cons_succ]
                          refine wpAnyH_take (i := 17) (v := undef) rfl (by kernel_rfl) (by kernel_rfl) (by kernel_rfl) (fun _ _ _ h => h) (Or.inr ⟨by rfl, rfl⟩) (by assumption) ?_
                          try simp only [Act.put, List.getElem_toArray, List.getElem_cons_zero, List.getElem_cons_succ, List.setIfInBounds_toArray, List.set_cons_zero, List.set_cons_succ]
                          refine wpAnyH_take (i := 18) (v := undef) rfl (by kernel_rfl) (by kernel_rfl) (by kernel_rfl) (fun _ _ _ h => h) (Or.inr ⟨by rfl, rfl⟩) (by assumption) ?_
                          try simp only [Act.put, List.getElem_toArray, List.getElem_cons_zero, List.getElem_cons_succ, List.setIfInBounds_toArray, List.set_cons_zero, List.set_cons_succ]
                          refine wpAnyH_take (i := 19) (v := undef) rfl (by kernel_rfl) (by kernel_rfl) (by kernel_rfl) (fun _ _ _ h => h) (Or.inr ⟨by rfl, rfl⟩) (by assumption) ?_
                          try simp only [Act.put, List.getElem_toArray, List.getElem_cons_zero, List.getElem_cons_succ, List.setIfInBounds_toArray, List.set_cons_zero, List.set_cons_succ]
                          refine wpAnyH_take (i := 20) (v := undef) rfl (by kernel_rfl) (by kernel_rfl) (by kernel_rfl) (fun _ _ _ h => h) (Or.inr ⟨by rfl, rfl⟩) (by assumption) ?_
                          try simp only [Act.put, List.getElem_toArray, List.getElem_cons_zero, List.getElem_cons_succ, List.setIfInBounds_toArray, List.set_cons_zero, List.set_cons_succ]
                          refine wpAnyH_take (i := 21) (v := undef) rfl (by kernel_rfl) (by kernel_rfl) (by kernel_rfl) (fun _ _ _ h => h) (Or.inr ⟨by rfl, rfl⟩) (by assumption) ?_
                          try simp only [Act.put, List.getElem_toArray, List.getElem_cons_zero, List.getElem_cons_succ, List.setIfInBounds_toArray, List.set_cons_zero, List.set_cons_succ]
                          refine wpAnyH_take (i := 22) (v := undef) rfl (by kernel_rfl) (by kernel_rfl) (by kernel_rfl) (fun _ _ _ h => h) (Or.inr ⟨by rfl, rfl⟩) (by assumption) ?_
                          try simp only [Act.put, List.getElem_toArray, List.getElem_cons_zero, List.getElem_cons_succ, List.setIfInBounds_toArray, List.set_cons_zero, List.set_cons_succ]
                          refine wpAnyH_take (i := 23) (v := undef) rfl (by kernel_rfl) (by kernel_rfl) (by kernel_rfl) (fun _ _ _ h => h) (Or.inr ⟨by rfl, rfl⟩) (by assumption) ?_
                          try simp only [Act.put, List.getElem_toArray, List.getElem_cons_zero, List.getElem_cons_succ, List.setIfInBounds_toArray, List.set_cons_zero, List.set_cons_succ]
                          refine wpAnyH_take (i := 24) (v := undef) rfl (by kernel_rfl) (by kernel_rfl) (by kernel_rfl) (fun _ _ _ h => h) (Or.inr ⟨by rfl, rfl⟩) (by assumption) ?_
                          try simp only [Act.put, List.getElem_toArray, List.getElem_cons_zero, List.getElem_cons_succ, List.setIfInBounds_toArray, List.set_cons_zero, List.set_cons_succ]
                          refine wpAnyH_take (i := 25) (v := undef) rfl (by kernel_rfl) (by kernel_rfl) (by kernel_rfl) (fun _ _ _ h => h) (Or.inr ⟨by rfl, rfl⟩) (by assumption) ?_
                          try simp only [Act.put, List.getElem_toArray, List.getElem_cons_zero, List.getElem_cons_succ, List.setIfInBounds_toArray, List.set_cons_zero, List.set_cons_succ]
                          refine wpAnyH_take (i := 26) (v := ?_) rfl (by kernel_rfl) (by kernel_rfl) (by kernel_rfl) (fun _ _ _ h => h) (Or.inl ⟨by rfl, ?_⟩) (by assumption) ?_
                          rotate_left
                          first | (focus ((intro w hSw; (try dsimp only at hSw); go_simp); (try with_reducible rfl); done)) | fail
                          try simp only [Act.put, List.getElem_toArray, List.getElem_cons_zero, List.getElem_cons_succ, List.setIfInBounds_toArray, List.set_cons_zero, List.set_cons_succ]
                          refine wpAnyH_take (i := 27) (v := ?_) rfl (by kernel_rfl) (by kernel_rfl) (by kernel_rfl) (fun _ _ _ h => h) (Or.inl ⟨by rfl, ?_⟩) (by assumption) ?_
                          rotate_left
                          first | (focus ((intro w hSw; (try dsimp only at hSw); go_simp); (try with_reducible rfl); done)) | fail
                          try simp only [Act.put, List.getElem_toArray, List.getElem_cons_zero, List.getElem_cons_succ, List.setIfInBounds_toArray, List.set_cons_zero, List.set_cons_succ]
                          refine wpAnyH_done (by kernel_rfl) ?_ _
                          go_wp2
                          go_roundw
                          case rel => exact ⟨_, by omega, by go_num, okE_step HK.out.1 HXj.out HX.out, HK.out.2.drew.trans (below_of_le B5.out hNW)⟩
                          case measure => simp [intOf]; omega
                      · obtain ⟨k, rfl⟩ : ∃ k, j = k + 1 := ⟨j - 1, by omega⟩
                        obtain ⟨p, hp⟩ : ∃ p, es[k]? = some p := ⟨es[k]'(by have := HLn.out; omega), List.getElem?_eq_getElem _⟩
                        obtain ⟨b1, o1', hA1', _, hrp, _⟩ := HEsr.out.at_ hp
                        obtain ⟨rfl, rfl⟩ : b0 = b1 ∧ o0 = o1' := by simpa using hA1'
                        clear hA1'
                        obtain ⟨m0, m1, m2⟩ := range_dot hrp
                        obtain ⟨n0, n1, n2⟩ := range_dot HS.out.2
                        have HPV := Lib.hid (show prevD none (eds es) (k + 1) = some p.e.dot by unfold prevD; rw [if_neg (by omega)]; show ((eds es)[k]?).map _ = _; rw [eds_get hp]; rfl)
                        clear hp hrp
                        have CL := Lib.hid (fun w => rless_dLt' p.e.dot.1.1 p.e.dot.1.2 p.e.dot.2 x.e.dot.1.1 x.e.dot.1.2 x.e.dot.2 w)
                        unfold dotV at CL
                        have yk : IntKind.i64.wrap (k : Int) = (k : Int) := IntWalk.i64_in _ (by omega)
                        have yk2 : decide ((0 : Int) < (k : Int) + 1) = true := decide_eq_true (by omega)
                        have hkn : k < ne := by omega
                        have yj1 : (0 : Int) ≤ (k : Int) + 1 := by omega
                        have yj2 : (k : Int) + 1 < (ne : Int) := by omega
                        have yj3 : ((k : Int) + 1).toNat = k + 1 := by omega
                        have HS := Lib.hid (And.intro HS.out.1 (And.intro HS.out.2 (And.intro n0 (And.intro n1 (And.intro n2 (And.intro m0 (And.intro m1 m2)))))))
                        clear m0 m1 m2 n0 n1 n2
                        cases hr : evB x.e with
                        | false =>
                          rw [hr] at CR0
                          have CR := Lib.hid CR0
                          clear CR0
                          have hr' := hr
                          clear hr
                          have HX := Lib.hid (show okEd (prevD none (eds es) (k + 1)) x.e = false from by unfold okEd; rw [hr']; rfl)
                          clear hr'
                          refine wp_region_held_drew (S := (fun W => W.cell? ⟨E, 4, none⟩ = some (.slice (some ⟨b0, o0, none⟩) ne ce) ∧ W.rangeAt b0 (o0 + (k + 1) * 19) (evA x.e x.A x.c).toList ∧ W.cell? ⟨b0, o0 + (k + 1) * 19, none⟩ = some (.int .i64 x.e.dot.1.1) ∧ W.cell? ⟨b0, o0 + (k + 1) * 19 + 1, none⟩ = some (.int .i64 x.e.dot.1.2) ∧ W.cell? ⟨b0, o0 + (k + 1) * 19 + 2, none⟩ = some (.int .i64 x.e.dot.2) ∧ W.cell? ⟨b0, o0 + k * 19, none⟩ = some (.int .i64 p.e.dot.1.1) ∧ W.cell? ⟨b0, o0 + k * 19 + 1, none⟩ = some (.int .i64 p.e.dot.1.2) ∧ W.cell? ⟨b0, o0 + k * 19 + 2, none⟩ = some (.int .i64 p.e.dot.2))) (by kernel_rfl) ?_ (fun hHeld => ?_)
                          · (try dsimp only); exact HS.out
                          refine wpAnyH_take (i := 0) (v := ?_) rfl (by kernel_rfl) (by kernel_rfl) (by kernel_rfl) (fun _ _ _ h => h) (Or.inl ⟨by rfl, ?_⟩) (by assumption) ?_
                          rotate_left
                          first | (focus ((intro w hSw; (try dsimp only at hSw); go_simp); (try with_reducible rfl); done)) | fail
                          try simp only [Act.put, List.getElem_toArray, List.getElem_cons_zero, List.setIfInBounds_toArray, List.set_cons_zero, List.set_cons_succ]
                          refine wpAnyH_take (i := 1) (v := ?_) rfl (by kernel_rfl) (by kernel_rfl) (by kernel_rfl) (fun _ _ _ h => h) (Or.inl ⟨by rfl, ?_⟩) (by assumption) ?_
                          rotate_left
                          first | (focus ((intro w hSw; (try dsimp only at hSw); go_simp); (try with_reducible rfl); done)) | fail
                          try simp only [Act.put, List.getElem_toArray, List.getElem_cons_zero, List.getElem_cons_succ, List.setIfInBounds_toArray, List.set_cons_zero, List.set_cons_succ]
                          refine wpAnyH_take (i := 2) (v := ?_) rfl (by kernel_rfl) (by kernel_rfl) (by kernel_rfl) (fun _ _ _ h => h) (Or.inl ⟨by rfl, ?_⟩) (by assumption) ?_
                          rotate_left
                          first | (focus ((intro w hSw; (try dsimp only at hSw); go_simp); (try with_reducible rfl); done)) | fail
                          try simp only [Act.put, List.getElem_toArray, List.getElem_cons_zero, List.getElem_cons_succ, List.setIfInBounds_toArray, List.set_cons_zero, List.set_cons_succ]
                          refine wpAnyH_take (i := 3) (v := ?_) rfl (by kernel_rfl) (by kernel_rfl) (by kernel_rfl) (fun _ _ _ h => h) (Or.inl ⟨by rfl, ?_⟩) (by assumption) ?_
                          rotate_left
                          first | (focus ((intro w hSw; (try dsimp only at hSw); go_simp); (try with_reducible rfl); done)) | fail
                          try simp only [Act.put, List.getElem_toArray, List.getElem_cons_zero, List.getElem_cons_succ, List.setIfInBounds_toArray, List.set_cons_zero, List.set_cons_succ]
                          refine wpAnyH_take (i := 4) rfl (by kernel_rfl) (by kernel_rfl) (by kernel_rfl) (fun _ _ _ h => h) (take_range (by rfl) _ rfl rfl (fun W h => h.2.1) Tryz.underlying59 rfl (by kernel_rfl)) (by assumption) ?_
                          try simp only [Act.put, List.getElem_toArray, List.getElem_cons_zero, List.getElem_cons_succ, List.setIfInBounds_toArray, List.set_cons_zero, List.set_cons_succ]
                          refine wpAnyH_ready (rs := [5]) (by kernel_rfl) (by simp) ?_
                          refine AllReadyH.cons rfl (fun K hK => ?_) AllReadyH.nil
                          go_simp
                          refine (CR.out _ (MO.out _ (Below.drew (Below.refl _ _)))).mono ?_; rintro r w5 ⟨rfl, b5⟩
                          go_wp2_with fail
                          refine hK.out _ _ ?_ (fun hHeld => ?_)
                          · (try dsimp only); exact ⟨(b5.cell (show _ < _ from hEl)).trans hHeld.1, range_below hHeld.2.1 b5 hbl, (b5.cell (show _ < _ from hbl)).trans hHeld.2.2.1, (b5.cell (show _ < _ from hbl)).trans hHeld.2.2.2.1, (b5.cell (show _ < _ from hbl)).trans hHeld.2.2.2.2.1, (b5.cell (show _ < _ from hbl)).trans hHeld.2.2.2.2.2.1, (b5.cell (show _ < _ from hbl)).trans hHeld.2.2.2.2.2.2.1, (b5.cell (show _ < _ from hbl)).trans hHeld.2.2.2.2.2.2.2⟩
                          clear hK K
                          try simp only [Act.put, List.getElem_toArray, List.getElem_cons_zero, List.getElem_cons_succ, List.setIfInBounds_toArray, List.set_cons_zero, List.set_cons_succ]
                          have B5 := Lib.hid b5
                          clear b5
                          refine wpAnyH_take (i := 6) (v := ?_) rfl (by kernel_rfl) (by kernel_rfl) (by kernel_rfl) (fun _ _ _ h => h) (Or.inl ⟨by rfl, ?_⟩) (by assumption) ?_
                          rotate_left
                          first | (focus ((intro w hSw; (try dsimp only at hSw); go_simp); (try with_reducible rfl); done)) | fail
                          try simp only [Act.put, List.getElem_toArray, List.getElem_cons_zero, List.getElem_cons_succ, List.setIfInBounds_toArray, List.set_cons_zero, List.set_cons_succ]
                          refine wpAnyH_take (i := 7) (v := ?_) rfl (by kernel_rfl) (by kernel_rfl) (by kernel_rfl) (fun _ _ _ h => h) (Or.inl ⟨by rfl, ?_⟩) (by assumption) ?_
                          rotate_left
                          first | (focus ((intro w hSw; (try dsimp only at hSw); go_simp); (try with_reducible rfl); done)) | fail
                          try simp only [Act.put, List.getElem_toArray, List.getElem_cons_zero, List.getElem_cons_succ, List.setIfInBounds_toArray, List.set_cons_zero, List.set_cons_succ]
                          refine wpAnyH_take (i := 8) (v := undef) rfl (by kernel_rfl) (by kernel_rfl) (by kernel_rfl) (fun _ _ _ h => h) (Or.inr ⟨by rfl, rfl⟩) (by assumption) ?_
                          try simp only [Act.put, List.getElem_toArray, List.getElem_cons_zero, List.getElem_cons_succ, List.setIfInBounds_toArray, List.set_cons_zero, List.set_cons_succ]
                          refine wpAnyH_take (i := 9) (v := undef) rfl (by kernel_rfl) (by kernel_rfl) (by kernel_rfl) (fun _ _ _ h => h) (Or.inr ⟨by rfl, rfl⟩) (by assumption) ?_
                          try simp only [Act.put, List.getElem_toArray, List.getElem_cons_zero, List.getElem_cons_succ, List.setIfInBounds_toArray, List.set_cons_zero, List.set_cons_succ]
                          refine wpAnyH_take (i := 10) (v := undef) rfl (by kernel_rfl) (by kernel_rfl) (by kernel_rfl) (fun _ _ _ h => h) (Or.inr ⟨by rfl, rfl⟩) (by assumption) ?_
                          try simp only [Act.put, List.getElem_toArray, List.getElem_cons_zero, List.getElem_cons_succ, List.setIfInBounds_toArray, List.set_cons_zero, List.set_cons_succ]
                          refine wpAnyH_take (i := 11) (v := undef) rfl (by kernel_rfl) (by kernel_rfl) (by kernel_rfl) (fun _ _ _ h => h) (Or.inr ⟨by rfl, rfl⟩) (by assumption) ?_
                          try simp only [Act.put, List.getElem_toArray, List.getElem_cons_zero, List.getElem_cons_succ, List.setIfInBounds_toArray, List.set_cons_zero, List.set_cons_succ]
                          refine wpAnyH_take (i := 12) (v := undef) rfl (by kernel_rfl) (by kernel_rfl) (by kernel_rfl) (fun _ _ _ h => h) (Or.inr ⟨by rfl, rfl⟩) (by assumption) ?_
                          try simp only [Act.put, List.getElem_toArray, List.getElem_cons_zero, List.getElem_cons_succ, List.setIfInBounds_toArray, List.set_cons_zero, List.set_cons_succ]
                          refine wpAnyH_take (i := 13) (v := undef) rfl (by kernel_rfl) (by kernel_rfl) (by kernel_rfl) (fun _ _ _ h => h) (Or.inr ⟨by rfl, rfl⟩) (by assumption) ?_
                          try simp only [Act.put, List.getElem_toArray, List.getElem_cons_zero, List.getElem_cons_succ, List.setIfInBounds_toArray, List.set_cons_zero, List.set_cons_succ]
                          refine wpAnyH_take (i := 14) (v := undef) rfl (by kernel_rfl) (by kernel_rfl) (by kernel_rfl) (fun _ _ _ h => h) (Or.inr ⟨by rfl, rfl⟩) (by assumption) ?_
                          try simp only [Act.put, List.getElem_toArray, List.getElem_cons_zero, List.getElem_cons_succ, List.setIfInBounds_toArray, List.set_cons_zero, List.set_cons_succ]
                          refine wpAnyH_take (i := 15) (v := undef) rfl (by kernel_rfl) (by kernel_rfl) (by kernel_rfl) (fun _ _ _ h => h) (Or.inr ⟨by rfl, rfl⟩) (by assumption) ?_
                          try simp only [Act.put, List.getElem_toArray, List.getElem_cons_zero, List.getElem_cons_succ, List.setIfInBounds_toArray, List.set_cons_zero, List.set_cons_succ]
                          refine wpAnyH_take (i := 16) (v := undef) rfl (by kernel_rfl) (by kernel_rfl) (by kernel_rfl) (fun _ _ _ h => h) (Or.inr ⟨by rfl, rfl⟩) (by assumption) ?_
                          try simp only [Act.put, List.getElem_toArray, List.getElem_cons_zero, List.getElem_cons_succ, List.setIfInBounds_toArray, List.set_cons_zero, List.set_cons_succ]
                          refine wpAnyH_take (i := 17) (v := undef) rfl (by kernel_rfl) (by kernel_rfl) (by kernel_rfl) (fun _ _ _ h => h) (Or.inr ⟨by rfl, rfl⟩) (by assumption) ?_
                          try simp only [Act.put, List.getElem_toArray, List.getElem_cons_zero, List.getElem_cons_succ, List.setIfInBounds_toArray, List.set_cons_zero, List.set_cons_succ]
                          refine wpAnyH_take (i := 18) (v := undef) rfl (by kernel_rfl) (by kernel_rfl) (by kernel_rfl) (fun _ _ _ h => h) (Or.inr ⟨by rfl, rfl⟩) (by assumption) ?_
                          try simp only [Act.put, List.getElem_toArray, List.getElem_cons_zero, List.getElem_cons_succ, List.setIfInBounds_toArray, List.set_cons_zero, List.set_cons_succ]
                          refine wpAnyH_take (i := 19) (v := undef) rfl (by kernel_rfl) (by kernel_rfl) (by kernel_rfl) (fun _ _ _ h => h) (Or.inr ⟨by rfl, rfl⟩) (by assumption) ?_
                          try simp only [Act.put, List.getElem_toArray, List.getElem_cons_zero, List.getElem_cons_succ, List.setIfInBounds_toArray, List.set_cons_zero, List.set_cons_succ]
                          refine wpAnyH_take (i := 20) (v := undef) rfl (by kernel_rfl) (by kernel_rfl) (by kernel_rfl) (fun _ _ _ h => h) (Or.inr ⟨by rfl, rfl⟩) (by assumption) ?_
                          try simp only [Act.put, List.getElem_toArray, List.getElem_cons_zero, List.getElem_cons_succ, List.setIfInBounds_toArray, List.set_cons_zero, List.set_cons_succ]
                          refine wpAnyH_take (i := 21) (v := undef) rfl (by kernel_rfl) (by kernel_rfl) (by kernel_rfl) (fun _ _ _ h => h) (Or.inr ⟨by rfl, rfl⟩) (by assumption) ?_
                          try simp only [Act.put, List.getElem_toArray, List.getElem_cons_zero, List.getElem_cons_succ, List.setIfInBounds_toArray, List.set_cons_zero, List.set_cons_succ]
                          refine wpAnyH_take (i := 22) (v := undef) rfl (by kernel_rfl) (by kernel_rfl) (by kernel_rfl) (fun _ _ _ h => h) (Or.inr ⟨by rfl, rfl⟩) (by assumption) ?_
                          try simp only [Act.put, List.getElem_toArray, List.getElem_cons_zero, List.getElem_cons_succ, List.setIfInBounds_toArray, List.set_cons_zero, List.set_cons_succ]
                          refine wpAnyH_take (i := 23) (v := undef) rfl (by kernel_rfl) (by kernel_rfl) (by kernel_rfl) (fun _ _ _ h => h) (Or.inr ⟨by rfl, rfl⟩) (by assumption) ?_
                          try simp only [Act.put, List.getElem_toArray, List.getElem_cons_zero, List.getElem_cons_succ, List.setIfInBounds_toArray, List.set_cons_zero, List.set_cons_succ]
                          refine wpAnyH_take (i := 24) (v := undef) rfl (by kernel_rfl) (by kernel_rfl) (by kernel_rfl) (fun _ _ _ h => h) (Or.inr ⟨by rfl, rfl⟩) (by assumption) ?_
                          try simp only [Act.put, List.getElem_toArray, List.getElem_cons_zero, List.getElem_cons_succ, List.setIfInBounds_toArray, List.set_cons_zero, List.set_cons_succ]
                          refine wpAnyH_take (i := 25) (v := undef) rfl (by kernel_rfl) (by kernel_rfl) (by kernel_rfl) (fun _ _ _ h => h) (Or.inr ⟨by rfl, rfl⟩) (by assumption) ?_
                          try simp only [Act.put, List.getElem_toArray, List.getElem_cons_zero, List.getElem_cons_succ, List.setIfInBounds_toArray, List.set_cons_zero, List.set_cons_succ]
                          refine wpAnyH_take (i := 26) (v := undef) rfl (by kernel_rfl) (by kernel_rfl) (by kernel_rfl) (fun _ _ _ h => h) (Or.inr ⟨by rfl, rfl⟩) (by assumption) ?_
                          try simp only [Act.put, List.getElem_toArray, List.getElem_cons_zero, List.getElem_cons_succ, List.setIfInBounds_toArray, List.set_cons_zero, List.set_cons_succ]
                          refine wpAnyH_take (i := 27) (v := ?_) rfl (by kernel_rfl) (by kernel_rfl) (by kernel_rfl) (fun _ _ _ h => h) (Or.inl ⟨by rfl, ?_⟩) (by assumption) ?_
                          rotate_left
                          first | (focus ((intro w hSw; (try dsimp only at hSw); go_simp); (try with_reducible rfl); done)) | fail
                          try simp only [Act.put, List.getElem_toArray, List.getElem_cons_zero, List.getElem_cons_succ, List.setIfInBounds_toArray, List.set_cons_zero, List.set_cons_succ]
                          refine wpAnyH_done (by kernel_rfl) ?_ _
                          go_wp2
                          go_ret
                          exact ⟨ret_bool (by rw [HM.out, HVL.out, riseG_no HXj.out HX.out]), (by rw [HN.out]; exact HB.out.trans (below_of_le (HK.out.2.drew.trans (below_of_le B5.out hNW)) hEN))⟩
                        | true =>
                          rw [hr] at CR0
                          have CR := Lib.hid CR0
                          clear CR0
                          have hr' := hr
                          clear hr
                          cases hl : dLt ((p.e.dot.1.1, p.e.dot.1.2), p.e.dot.2) ((x.e.dot.1.1, x.e.dot.1.2), x.e.dot.2) with
                          | false =>
                            rw [hl] at CL
                            have HX := Lib.hid (show okEd (prevD none (eds es) (k + 1)) x.e = false from by unfold okEd; rw [HPV.out]; show (evB x.e && dLt p.e.dot x.e.dot) = false; rw [show dLt p.e.dot x.e.dot = false from hl, Bool.and_false])
                            clear hl hr'
                            refine wp_region_held_drew (S := (fun W => W.cell? ⟨E, 4, none⟩ = some (.slice (some ⟨b0, o0, none⟩) ne ce) ∧ W.rangeAt b0 (o0 + (k + 1) * 19) (evA x.e x.A x.c).toList ∧ W.cell? ⟨b0, o0 + (k + 1) * 19, none⟩ = some (.int .i64 x.e.dot.1.1) ∧ W.cell? ⟨b0, o0 + (k + 1) * 19 + 1, none⟩ = some (.int .i64 x.e.dot.1.2) ∧ W.cell? ⟨b0, o0 + (k + 1) * 19 + 2, none⟩ = some (.int .i64 x.e.dot.2) ∧ W.cell? ⟨b0, o0 + k * 19, none⟩ = some (.int .i64 p.e.dot.1.1) ∧ W.cell? ⟨b0, o0 + k * 19 + 1, none⟩ = some (.int .i64 p.e.dot.1.2) ∧ W.cell? ⟨b0, o0 + k * 19 + 2, none⟩ = some (.int .i64 p.e.dot.2))) (by kernel_rfl) ?_ (fun hHeld => ?_)
                            · (try dsimp only); exact HS.out
                            refine wpAnyH_take (i := 0) (v := ?_) rfl (by kernel_rfl) (by kernel_rfl) (by kernel_rfl) (fun _ _ _ h => h) (Or.inl ⟨by rfl, ?_⟩) (by assumption) ?_
                            rotate_left
                            first | (focus ((intro w hSw; (try dsimp only at hSw); go_simp); (try with_reducible rfl); done)) | fail
                            try simp only [Act.put, List.getElem_toArray, List.getElem_cons_zero, List.setIfInBounds_toArray, List.set_cons_zero, List.set_cons_succ]
                            refine wpAnyH_take (i := 1) (v := ?_) rfl (by kernel_rfl) (by kernel_rfl) (by kernel_rfl) (fun _ _ _ h => h) (Or.inl ⟨by rfl, ?_⟩) (by assumption) ?_
                            rotate_left
                            first | (focus ((intro w hSw; (try dsimp only at hSw); go_simp); (try with_reducible rfl); done)) | fail
                            try simp only [Act.put, List.getElem_toArray, List.getElem_cons_zero, List.getElem_cons_succ, List.setIfInBounds_toArray, List.set_cons_zero, List.set_cons_succ]
                            refine wpAnyH_take (i := 2) (v := ?_) rfl (by kernel_rfl) (by kernel_rfl) (by kernel_rfl) (fun _ _ _ h => h) (Or.inl ⟨by rfl, ?_⟩) (by assumption) ?_
                            rotate_left
                            first | (focus ((intro w hSw; (try dsimp only at hSw); go_simp); (try with_reducible rfl); done)) | fail
                            try simp only [Act.put, List.getElem_toArray, List.getElem_cons_zero, List.getElem_cons_succ, List.setIfInBounds_toArray, List.set_cons_zero, List.set_cons_succ]
                            refine wpAnyH_take (i := 3) (v := ?_) rfl (by kernel_rfl) (by kernel_rfl) (by kernel_rfl) (fun _ _ _ h => h) (Or.inl ⟨by rfl, ?_⟩) (by assumption) ?_
                            rotate_left
                            first | (focus ((intro w hSw; (try dsimp only at hSw); go_simp); (try with_reducible rfl); done)) | fail
                            try simp only [Act.put, List.getElem_toArray, List.getElem_cons_zero, List.getElem_cons_succ, List.setIfInBounds_toArray, List.set_cons_zero, List.set_cons_succ]
                            refine wpAnyH_take (i := 4) rfl (by kernel_rfl) (by kernel_rfl) (by kernel_rfl) (fun _ _ _ h => h) (take_range (by rfl) _ rfl rfl (fun W h => h.2.1) Tryz.underlying59 rfl (by kernel_rfl)) (by assumption) ?_
                            try simp only [Act.put, List.getElem_toArray, List.getElem_cons_zero, List.getElem_cons_succ, List.setIfInBounds_toArray, List.set_cons_zero, List.set_cons_succ]
                            refine wpAnyH_ready (rs := [5]) (by kernel_rfl) (by simp) ?_
                            refine AllReadyH.cons rfl (fun K hK => ?_) AllReadyH.nil
                            go_simp
                            refine (CR.out _ (MO.out _ (Below.drew (Below.refl _ _)))).mono ?_; rintro r w5 ⟨rfl, b5⟩
                            go_wp2_with fail
                            refine hK.out _ _ ?_ (fun hHeld => ?_)
                            · (try dsimp only); exact ⟨(b5.cell (show _ < _ from hEl)).trans hHeld.1, range_below hHeld.2.1 b5 hbl, (b5.cell (show _ < _ from hbl)).trans hHeld.2.2.1, (b5.cell (show _ < _ from hbl)).trans hHeld.2.2.2.1, (b5.cell (show _ < _ from hbl)).trans hHeld.2.2.2.2.1, (b5.cell (show _ < _ from hbl)).trans hHeld.2.2.2.2.2.1, (b5.cell (show _ < _ from hbl)).trans hHeld.2.2.2.2.2.2.1, (b5.cell (show _ < _ from hbl)).trans hHeld.2.2.2.2.2.2.2⟩
                            clear hK K
                            try simp only [Act.put, List.getElem_toArray, List.getElem_cons_zero, List.getElem_cons_succ, List.setIfInBounds_toArray, List.set_cons_zero, List.set_cons_succ]
                            have B5 := Lib.hid b5
                            clear b5
                            refine wpAnyH_take (i := 6) (v := ?_) rfl (by kernel_rfl) (by kernel_rfl) (by kernel_rfl) (fun _ _ _ h => h) (Or.inl ⟨by rfl, ?_⟩) (by assumption) ?_
                            rotate_left
                            first | (focus ((intro w hSw; (try dsimp only at hSw); go_simp); (try with_reducible rfl); done)) | fail
                            try simp only [Act.put, List.getElem_toArray, List.getElem_cons_zero, List.getElem_cons_succ, List.setIfInBounds_toArray, List.set_cons_zero, List.set_cons_succ]
                            refine wpAnyH_take (i := 7) (v := ?_) rfl (by kernel_rfl) (by kernel_rfl) (by kernel_rfl) (fun _ _ _ h => h) (Or.inl ⟨by rfl, ?_⟩) (by assumption) ?_
                            rotate_left
                            first | (focus ((intro w hSw; (try dsimp only at hSw); go_simp); (try with_reducible rfl); done)) | fail
                            try simp only [Act.put, List.getElem_toArray, List.getElem_cons_zero, List.getElem_cons_succ, List.setIfInBounds_toArray, List.set_cons_zero, List.set_cons_succ]
                            refine wpAnyH_take (i := 8) (v := ?_) rfl (by kernel_rfl) (by kernel_rfl) (by kernel_rfl) (fun _ _ _ h => h) (Or.inl ⟨by rfl, ?_⟩) (by assumption) ?_
                            rotate_left
                            first | (focus ((intro w hSw; (try dsimp only at hSw); go_simp); (try with_reducible rfl); done)) | fail
                            try simp only [Act.put, List.getElem_toArray, List.getElem_cons_zero, List.getElem_cons_succ, List.setIfInBounds_toArray, List.set_cons_zero, List.set_cons_succ]
                            refine wpAnyH_take (i := 9) (v := ?_) rfl (by kernel_rfl) (by kernel_rfl) (by kernel_rfl) (fun _ _ _ h => h) (Or.inl ⟨by rfl, ?_⟩) (by assumption) ?_
                            rotate_left
                            first | (focus ((intro w hSw; (try dsimp only at hSw); go_simp); (try with_reducible rfl); done)) | fail
                            try simp only [Act.put, List.getElem_toArray, List.getElem_cons_zero, List.getElem_cons_succ, List.setIfInBounds_toArray, List.set_cons_zero, List.set_cons_succ]
                            refine wpAnyH_take (i := 10) (v := ?_) rfl (by kernel_rfl) (by kernel_rfl) (by kernel_rfl) (fun _ _ _ h => h) (Or.inl ⟨by rfl, ?_⟩) (by assumption) ?_
                            rotate_left
                            first | (focus ((intro w hSw; (try dsimp only at hSw); go_simp); (try with_reducible rfl); done)) | fail
                            try simp only [Act.put, List.getElem_toArray, List.getElem_cons_zero, List.getElem_cons_succ, List.setIfInBounds_toArray, List.set_cons_zero, List.set_cons_succ]
                            refine wpAnyH_take (i := 11) (v := ?_) rfl (by kernel_rfl) (by kernel_rfl) (by kernel_rfl) (fun _ _ _ h => h) (Or.inl ⟨by rfl, ?_⟩) (by assumption) ?_
                            rotate_left
                            first | (focus ((intro w hSw; (try dsimp only at hSw); go_simp); (try with_reducible rfl); done)) | fail
                            try simp only [Act.put, List.getElem_toArray, List.getElem_cons_zero, List.getElem_cons_succ, List.setIfInBounds_toArray, List.set_cons_zero, List.set_cons_succ]
                            refine wpAnyH_take (i := 12) (v := ?_) rfl (by kernel_rfl) (by kernel_rfl) (by kernel_rfl) (fun _ _ _ h => h) (Or.inl ⟨by rfl, ?_⟩) (by assumption) ?_
                            rotate_left
                            first | (focus ((intro w hSw; (try dsimp only at hSw); go_simp); (try with_reducible rfl); done)) | fail
                            try simp only [Act.put, List.getElem_toArray, List.getElem_cons_zero, List.getElem_cons_succ, List.setIfInBounds_toArray, List.set_cons_zero, List.set_cons_succ]
                            refine wpAnyH_take (i := 13) (v := ?_) rfl (by kernel_rfl) (by kernel_rfl) (by kernel_rfl) (fun _ _ _ h => h) (Or.inl ⟨by rfl, ?_⟩) (by assumption) ?_
                            rotate_left
                            first | (focus ((intro w hSw; (try dsimp only at hSw); go_simp); (try with_reducible rfl); done)) | fail
                            try simp only [Act.put, List.getElem_toArray, List.getElem_cons_zero, List.getElem_cons_succ, List.setIfInBounds_toArray, List.set_cons_zero, List.set_cons_succ]
                            refine wpAnyH_take (i := 14) (v := ?_) rfl (by kernel_rfl) (by kernel_rfl) (by kernel_rfl) (fun _ _ _ h => h) (Or.inl ⟨by rfl, ?_⟩) (by assumption) ?_
                            rotate_left
                            first | (focus ((intro w hSw; (try dsimp only at hSw); go_simp); (try with_reducible rfl); done)) | fail
                            try simp only [Act.put, List.getElem_toArray, List.getElem_cons_zero, List.getElem_cons_succ, List.setIfInBounds_toArray, List.set_cons_zero, List.set_cons_succ]
                            refine wpAnyH_take (i := 15) (v := ?_) rfl (by kernel_rfl) (by kernel_rfl) (by kernel_rfl) (fun _ _ _ h => h) (Or.inl ⟨by rfl, ?_⟩) (by assumption) ?_
                            rotate_left
                            first | (focus ((intro w hSw; (try dsimp only at hSw); go_simp); (try with_reducible rfl); done)) | fail
                            try simp only [Act.put, List.getElem_toArray, List.getElem_cons_zero, List.getElem_cons_succ, List.setIfInBounds_toArray, List.set_cons_zero, List.set_cons_succ]
                            refine wpAnyH_take (i := 16) (v := ?_) rfl (by kernel_rfl) (by kernel_rfl) (by kernel_rfl) (fun _ _ _ h => h) (Or.inl ⟨by rfl, ?_⟩) (by assumption) ?_
                            rotate_left
                            first | (focus ((intro w hSw; (try dsimp only at hSw); go_simp); (try with_reducible rfl); done)) | fail
                            try simp only [Act.put, List.getElem_toArray, List.getElem_cons_zero, List.getElem_cons_succ, List.setIfInBounds_toArray, List.set_cons_zero, List.set_cons_succ]
                            refine wpAnyH_take (i := 17) (v := ?_) rfl (by kernel_rfl) (by kernel_rfl) (by kernel_rfl) (fun _ _ _ h => h) (Or.inl ⟨by rfl, ?_⟩) (by assumption) ?_
                            rotate_left
                            first | (focus ((intro w hSw; (try dsimp only at hSw); go_simp); (try with_reducible rfl); done)) | fail
                            try simp only [Act.put, List.getElem_toArray, List.getElem_cons_zero, List.getElem_cons_succ, List.setIfInBounds_toArray, List.set_cons_zero, List.set_cons_succ]
                            refine wpAnyH_take (i := 18) (v := ?_) rfl (by kernel_rfl) (by kernel_rfl) (by kernel_rfl) (fun _ _ _ h => h) (Or.inl ⟨by rfl, ?_⟩) (by assumption) ?_
                            rotate_left
                            first | (focus ((intro w hSw; (try dsimp only at hSw); go_simp); (try with_reducible rfl); done)) | fail
                            try simp only [Act.put, List.getElem_toArray, List.getElem_cons_zero, List.getElem_cons_succ, List.setIfInBounds_toArray, List.set_cons_zero, List.set_cons_succ]
                            refine wpAnyH_take (i := 19) (v := ?_) rfl (by kernel_rfl) (by kernel_rfl) (by kernel_rfl) (fun _ _ _ h => h) (Or.inl ⟨by rfl, ?_⟩) (by assumption) ?_
                            rotate_left
                            first | (focus ((intro w hSw; (try dsimp only at hSw); go_simp); (try with_reducible rfl); done)) | fail
                            try simp only [Act.put, List.getElem_toArray, List.getElem_cons_zero, List.getElem_cons_succ, List.setIfInBounds_toArray, List.set_cons_zero, List.set_cons_succ]
                            refine wpAnyH_take (i := 20) (v := ?_) rfl (by kernel_rfl) (by kernel_rfl) (by kernel_rfl) (fun _ _ _ h => h) (Or.inl ⟨by rfl, ?_⟩) (by assumption) ?_
                            rotate_left
                            first | (focus ((intro w hSw; (try dsimp only at hSw); go_simp); (try with_reducible rfl); done)) | fail
                            try simp only [Act.put, List.getElem_toArray, List.getElem_cons_zero, List.getElem_cons_succ, List.setIfInBounds_toArray, List.set_cons_zero, List.set_cons_succ]
                            refine wpAnyH_take (i := 21) (v := ?_) rfl (by kernel_rfl) (by kernel_rfl) (by kernel_rfl) (fun _ _ _ h => h) (Or.inl ⟨by rfl, ?_⟩) (by assumption) ?_
                            rotate_left
                            first | (focus ((intro w hSw; (try dsimp only at hSw); go_simp); (try with_reducible rfl); done)) | fail
                            try simp only [Act.put, List.getElem_toArray, List.getElem_cons_zero, List.getElem_cons_succ, List.setIfInBounds_toArray, List.set_cons_zero, List.set_cons_succ]
                            refine wpAnyH_take (i := 22) (v := ?_) rfl (by kernel_rfl) (by kernel_rfl) (by kernel_rfl) (fun _ _ _ h => h) (Or.inl ⟨by rfl, ?_⟩) (by assumption) ?_
                            rotate_left
                            first | (focus ((intro w hSw; (try dsimp only at hSw); go_simp); (try with_reducible rfl); done)) | fail
                            try simp only [Act.put, List.getElem_toArray, List.getElem_cons_zero, List.getElem_cons_succ, List.setIfInBounds_toArray, List.set_cons_zero, List.set_cons_succ]
                            refine wpAnyH_take (i := 23) (v := ?_) rfl (by kernel_rfl) (by kernel_rfl) (by kernel_rfl) (fun _ _ _ h => h) (Or.inl ⟨by rfl, ?_⟩) (by assumption) ?_
                            rotate_left
                            first | (focus ((intro w hSw; (try dsimp only at hSw); go_simp); (try with_reducible rfl); done)) | fail
                            try simp only [Act.put, List.getElem_toArray, List.getElem_cons_zero, List.getElem_cons_succ, List.setIfInBounds_toArray, List.set_cons_zero, List.set_cons_succ]
                            refine wpAnyH_ready (rs := [24]) (by kernel_rfl) (by simp) ?_
                            refine AllReadyH.cons rfl (fun K hK => ?_) AllReadyH.nil
                            go_simp
                            refine (CL.out _).mono ?_; rintro r w6 ⟨rfl, b6⟩
                            go_wp2_with fail
                            refine hK.out _ _ ?_ (fun hHeld => ?_)
                            · (try dsimp only); (have b6' := below_of_le b6 B5.out.size; exact ⟨(b6'.cell (show _ < _ from hEl)).trans hHeld.1, range_below hHeld.2.1 b6' hbl, (b6'.cell (show _ < _ from hbl)).trans hHeld.2.2.1, (b6'.cell (show _ < _ from hbl)).trans hHeld.2.2.2.1, (b6'.cell (show _ < _ from hbl)).trans hHeld.2.2.2.2.1, (b6'.cell (show _ < _ from hbl)).trans hHeld.2.2.2.2.2.1, (b6'.cell (show _ < _ from hbl)).trans hHeld.2.2.2.2.2.2.1, (b6'.cell (show _ < _ from hbl)).trans hHeld.2.2.2.2.2.2.2⟩)
                            clear hK K
                            try simp only [Act.put, List.getElem_toArray, List.getElem_cons_zero, List.getElem_cons_succ, List.setIfInBounds_toArray, List.set_cons_zero, List.set_cons_succ]
                            have B6 := Lib.hid (B5.out.trans (below_of_le b6 B5.out.size))
                            clear b6
                            refine wpAnyH_take (i := 25) (v := ?_) rfl (by kernel_rfl) (by kernel_rfl) (by kernel_rfl) (fun _ _ _ h => h) (Or.inl ⟨by rfl, ?_⟩) (by assumption) ?_
                            rotate_left
                            first | (focus ((intro w hSw; (try dsimp only at hSw); go_simp); (try with_reducible rfl); done)) | fail
                            try simp only [Act.put, List.getElem_toArray, List.getElem_cons_zero, List.getElem_cons_succ, List.setIfInBounds_toArray, List.set_cons_zero, List.set_cons_succ]
                            refine wpAnyH_take (i := 26) (v := ?_) rfl (by kernel_rfl) (by kernel_rfl) (by kernel_rfl) (fun _ _ _ h => h) (Or.inl ⟨by rfl, ?_⟩) (by assumption) ?_
                            rotate_left
                            first | (focus ((intro w hSw; (try dsimp only at hSw); go_simp); (try with_reducible rfl); done)) | fail
                            try simp only [Act.put, List.getElem_toArray, List.getElem_cons_zero, List.getElem_cons_succ, List.setIfInBounds_toArray, List.set_cons_zero, List.set_cons_succ]
                            refine wpAnyH_take (i := 27) (v := ?_) rfl (by kernel_rfl) (by kernel_rfl) (by kernel_rfl) (fun _ _ _ h => h) (Or.inl ⟨by rfl, ?_⟩) (by assumption) ?_
                            rotate_left
                            first | (focus ((intro w hSw; (try dsimp only at hSw); go_simp); (try with_reducible rfl); done)) | fail
                            try simp only [Act.put, List.getElem_toArray, List.getElem_cons_zero, List.getElem_cons_succ, List.setIfInBounds_toArray, List.set_cons_zero, List.set_cons_succ]
                            refine wpAnyH_done (by kernel_rfl) ?_ _
                            go_wp2
                            go_ret
                            exact ⟨ret_bool (by rw [HM.out, HVL.out, riseG_no HXj.out HX.out]), (by rw [HN.out]; exact HB.out.trans (below_of_le (HK.out.2.drew.trans (below_of_le B6.out hNW)) hEN))⟩
                          | true =>
                            rw [hl] at CL
                            have HX := Lib.hid (show okEd (prevD none (eds es) (k + 1)) x.e = true from by unfold okEd; rw [HPV.out]; show (evB x.e && dLt p.e.dot x.e.dot) = true; rw [hr', show dLt p.e.dot x.e.dot = true from hl]; rfl)
                            clear hl hr'
                            refine wp_region_held_drew (S := (fun W => W.cell? ⟨E, 4, none⟩ = some (.slice (some ⟨b0, o0, none⟩) ne ce) ∧ W.rangeAt b0 (o0 + (k + 1) * 19) (evA x.e x.A x.c).toList ∧ W.cell? ⟨b0, o0 + (k + 1) * 19, none⟩ = some (.int .i64 x.e.dot.1.1) ∧ W.cell? ⟨b0, o0 + (k + 1) * 19 + 1, none⟩ = some (.int .i64 x.e.dot.1.2) ∧ W.cell? ⟨b0, o0 + (k + 1) * 19 + 2, none⟩ = some (.int .i64 x.e.dot.2) ∧ W.cell? ⟨b0, o0 + k * 19, none⟩ = some (.int .i64 p.e.dot.1.1) ∧ W.cell? ⟨b0, o0 + k * 19 + 1, none⟩ = some (.int .i64 p.e.dot.1.2) ∧ W.cell? ⟨b0, o0 + k * 19 + 2, none⟩ = some (.int .i64 p.e.dot.2))) (by kernel_rfl) ?_ (fun hHeld => ?_)
                            · (try dsimp only); exact HS.out
                            refine wpAnyH_take (i := 0) (v := ?_) rfl (by kernel_rfl) (by kernel_rfl) (by kernel_rfl) (fun _ _ _ h => h) (Or.inl ⟨by rfl, ?_⟩) (by assumption) ?_
                            rotate_left
                            first | (focus ((intro w hSw; (try dsimp only at hSw); go_simp); (try with_reducible rfl); done)) | fail
                            try simp only [Act.put, List.getElem_toArray, List.getElem_cons_zero, List.setIfInBounds_toArray, List.set_cons_zero, List.set_cons_succ]
                            refine wpAnyH_take (i := 1) (v := ?_) rfl (by kernel_rfl) (by kernel_rfl) (by kernel_rfl) (fun _ _ _ h => h) (Or.inl ⟨by rfl, ?_⟩) (by assumption) ?_
                            rotate_left
                            first | (focus ((intro w hSw; (try dsimp only at hSw); go_simp); (try with_reducible rfl); done)) | fail
                            try simp only [Act.put, List.getElem_toArray, List.getElem_cons_zero, List.getElem_cons_succ, List.setIfInBounds_toArray, List.set_cons_zero, List.set_cons_succ]
                            refine wpAnyH_take (i := 2) (v := ?_) rfl (by kernel_rfl) (by kernel_rfl) (by kernel_rfl) (fun _ _ _ h => h) (Or.inl ⟨by rfl, ?_⟩) (by assumption) ?_
                            rotate_left
                            first | (focus ((intro w hSw; (try dsimp only at hSw); go_simp); (try with_reducible rfl); done)) | fail
                            try simp only [Act.put, List.getElem_toArray, List.getElem_cons_zero, List.getElem_cons_succ, List.setIfInBounds_toArray, List.set_cons_zero, List.set_cons_succ]
                            refine wpAnyH_take (i := 3) (v := ?_) rfl (by kernel_rfl) (by kernel_rfl) (by kernel_rfl) (fun _ _ _ h => h) (Or.inl ⟨by rfl, ?_⟩) (by assumption) ?_
                            rotate_left
                            first | (focus ((intro w hSw; (try dsimp only at hSw); go_simp); (try with_reducible rfl); done)) | fail
                            try simp only [Act.put, List.getElem_toArray, List.getElem_cons_zero, List.getElem_cons_succ, List.setIfInBounds_toArray, List.set_cons_zero, List.set_cons_succ]
                            refine wpAnyH_take (i := 4) rfl (by kernel_rfl) (by kernel_rfl) (by kernel_rfl) (fun _ _ _ h => h) (take_range (by rfl) _ rfl rfl (fun W h => h.2.1) Tryz.underlying59 rfl (by kernel_rfl)) (by assumption) ?_
                            try simp only [Act.put, List.getElem_toArray, List.getElem_cons_zero, List.getElem_cons_succ, List.setIfInBounds_toArray, List.set_cons_zero, List.set_cons_succ]
                            refine wpAnyH_ready (rs := [5]) (by kernel_rfl) (by simp) ?_
                            refine AllReadyH.cons rfl (fun K hK => ?_) AllReadyH.nil
                            go_simp
                            refine (CR.out _ (MO.out _ (Below.drew (Below.refl _ _)))).mono ?_; rintro r w5 ⟨rfl, b5⟩
                            go_wp2_with fail
                            refine hK.out _ _ ?_ (fun hHeld => ?_)
                            · (try dsimp only); exact ⟨(b5.cell (show _ < _ from hEl)).trans hHeld.1, range_below hHeld.2.1 b5 hbl, (b5.cell (show _ < _ from hbl)).trans hHeld.2.2.1, (b5.cell (show _ < _ from hbl)).trans hHeld.2.2.2.1, (b5.cell (show _ < _ from hbl)).trans hHeld.2.2.2.2.1, (b5.cell (show _ < _ from hbl)).trans hHeld.2.2.2.2.2.1, (b5.cell (show _ < _ from hbl)).trans hHeld.2.2.2.2.2.2.1, (b5.cell (show _ < _ from hbl)).trans hHeld.2.2.2.2.2.2.2⟩
                            clear hK K
                            try simp only [Act.put, List.getElem_toArray, List.getElem_cons_zero, List.getElem_cons_succ, List.setIfInBounds_toArray, List.set_cons_zero, List.set_cons_succ]
                            have B5 := Lib.hid b5
                            clear b5
                            refine wpAnyH_take (i := 6) (v := ?_) rfl (by kernel_rfl) (by kernel_rfl) (by kernel_rfl) (fun _ _ _ h => h) (Or.inl ⟨by rfl, ?_⟩) (by assumption) ?_
                            rotate_left
                            first | (focus ((intro w hSw; (try dsimp only at hSw); go_simp); (try with_reducible rfl); done)) | fail
                            try simp only [Act.put, List.getElem_toArray, List.getElem_cons_zero, List.getElem_cons_succ, List.setIfInBounds_toArray, List.set_cons_zero, List.set_cons_succ]
                            refine wpAnyH_take (i := 7) (v := ?_) rfl (by kernel_rfl) (by kernel_rfl) (by kernel_rfl) (fun _ _ _ h => h) (Or.inl ⟨by rfl, ?_⟩) (by assumption) ?_
                            rotate_left
                            first | (focus ((intro w hSw; (try dsimp only at hSw); go_simp); (try with_reducible rfl); done)) | fail
                            try simp only [Act.put, List.getElem_toArray, List.getElem_cons_zero, List.getElem_cons_succ, List.setIfInBounds_toArray, List.set_cons_zero, List.set_cons_succ]
                            refine wpAnyH_take (i := 8) (v := ?_) rfl (by kernel_rfl) (by kernel_rfl) (by kernel_rfl) (fun _ _ _ h => h) (Or.inl ⟨by rfl, ?_⟩) (by assumption) ?_
                            rotate_left
                            first | (focus ((intro w hSw; (try dsimp only at hSw); go_simp); (try with_reducible rfl); done)) | fail
                            try simp only [Act.put, List.getElem_toArray, List.getElem_cons_zero, List.getElem_cons_succ, List.setIfInBounds_toArray, List.set_cons_zero, List.set_cons_succ]
                            refine wpAnyH_take (i := 9) (v := ?_) rfl (by kernel_rfl) (by kernel_rfl) (by kernel_rfl) (fun _ _ _ h => h) (Or.inl ⟨by rfl, ?_⟩) (by assumption) ?_
                            rotate_left
                            first | (focus ((intro w hSw; (try dsimp only at hSw); go_simp); (try with_reducible rfl); done)) | fail
                            try simp only [Act.put, List.getElem_toArray, List.getElem_cons_zero, List.getElem_cons_succ, List.setIfInBounds_toArray, List.set_cons_zero, List.set_cons_succ]
                            refine wpAnyH_take (i := 10) (v := ?_) rfl (by kernel_rfl) (by kernel_rfl) (by kernel_rfl) (fun _ _ _ h => h) (Or.inl ⟨by rfl, ?_⟩) (by assumption) ?_
                            rotate_left
                            first | (focus ((intro w hSw; (try dsimp only at hSw); go_simp); (try with_reducible rfl); done)) | fail
                            try simp only [Act.put, List.getElem_toArray, List.getElem_cons_zero, List.getElem_cons_succ, List.setIfInBounds_toArray, List.set_cons_zero, List.set_cons_succ]
                            refine wpAnyH_take (i := 11) (v := ?_) rfl (by kernel_rfl) (by kernel_rfl) (by kernel_rfl) (fun _ _ _ h => h) (Or.inl ⟨by rfl, ?_⟩) (by assumption) ?_
                            rotate_left
                            first | (focus ((intro w hSw; (try dsimp only at hSw); go_simp); (try with_reducible rfl); done)) | fail
                            try simp only [Act.put, List.getElem_toArray, List.getElem_cons_zero, List.getElem_cons_succ, List.setIfInBounds_toArray, List.set_cons_zero, List.set_cons_succ]
                            refine wpAnyH_take (i := 12) (v := ?_) rfl (by kernel_rfl) (by kernel_rfl) (by kernel_rfl) (fun _ _ _ h => h) (Or.inl ⟨by rfl, ?_⟩) (by assumption) ?_
                            rotate_left
                            first | (focus ((intro w hSw; (try dsimp only at hSw); go_simp); (try with_reducible rfl); done)) | fail
                            try simp only [Act.put, List.getElem_toArray, List.getElem_cons_zero, List.getElem_cons_succ, List.setIfInBounds_toArray, List.set_cons_zero, List.set_cons_succ]
                            refine wpAnyH_take (i := 13) (v := ?_) rfl (by kernel_rfl) (by kernel_rfl) (by kernel_rfl) (fun _ _ _ h => h) (Or.inl ⟨by rfl, ?_⟩) (by assumption) ?_
                            rotate_left
                            first | (focus ((intro w hSw; (try dsimp only at hSw); go_simp); (try with_reducible rfl); done)) | fail
                            try simp only [Act.put, List.getElem_toArray, List.getElem_cons_zero, List.getElem_cons_succ, List.setIfInBounds_toArray, List.set_cons_zero, List.set_cons_succ]
                            refine wpAnyH_take (i := 14) (v := ?_) rfl (by kernel_rfl) (by kernel_rfl) (by kernel_rfl) (fun _ _ _ h => h) (Or.inl ⟨by rfl, ?_⟩) (by assumption) ?_
                            rotate_left
                            first | (focus ((intro w hSw; (try dsimp only at hSw); go_simp); (try with_reducible rfl); done)) | fail
                            try simp only [Act.put, List.getElem_toArray, List.getElem_cons_zero, List.getElem_cons_succ, List.setIfInBounds_toArray, List.set_cons_zero, List.set_cons_succ]
                            refine wpAnyH_take (i := 15) (v := ?_) rfl (by kernel_rfl) (by kernel_rfl) (by kernel_rfl) (fun _ _ _ h => h) (Or.inl ⟨by rfl, ?_⟩) (by assumption) ?_
                            rotate_left
                            first | (focus ((intro w hSw; (try dsimp only at hSw); go_simp); (try with_reducible rfl); done)) | fail
                            try simp only [Act.put, List.getElem_toArray, List.getElem_cons_zero, List.getElem_cons_succ, List.setIfInBounds_toArray, List.set_cons_zero, List.set_cons_succ]
                            refine wpAnyH_take (i := 16) (v := ?_) rfl (by kernel_rfl) (by kernel_rfl) (by kernel_rfl) (fun _ _ _ h => h) (Or.inl ⟨by rfl, ?_⟩) (by assumption) ?_
                            rotate_left
                            first | (focus ((intro w hSw; (try dsimp only at hSw); go_simp); (try with_reducible rfl); done)) | fail
                            try simp only [Act.put, List.getElem_toArray, List.getElem_cons_zero, List.getElem_cons_succ, List.setIfInBounds_toArray, List.set_cons_zero, List.set_cons_succ]
                            refine wpAnyH_take (i := 17) (v := ?_) rfl (by kernel_rfl) (by kernel_rfl) (by kernel_rfl) (fun _ _ _ h => h) (Or.inl ⟨by rfl, ?_⟩) (by assumption) ?_
                            rotate_left
                            first | (focus ((intro w hSw; (try dsimp only at hSw); go_simp); (try with_reducible rfl); done)) | fail
                            try simp only [Act.put, List.getElem_toArray, List.getElem_cons_zero, List.getElem_cons_succ, List.setIfInBounds_toArray, List.set_cons_zero, List.set_cons_succ]
                            refine wpAnyH_take (i := 18) (v := ?_) rfl (by kernel_rfl) (by kernel_rfl) (by kernel_rfl) (fun _ _ _ h => h) (Or.inl ⟨by rfl, ?_⟩) (by assumption) ?_
                            rotate_left
                            first | (focus ((intro w hSw; (try dsimp only at hSw); go_simp); (try with_reducible rfl); done)) | fail
                            try simp only [Act.put, List.getElem_toArray, List.getElem_cons_zero, List.getElem_cons_succ, List.setIfInBounds_toArray, List.set_cons_zero, List.set_cons_succ]
                            refine wpAnyH_take (i := 19) (v := ?_) rfl (by kernel_rfl) (by kernel_rfl) (by kernel_rfl) (fun _ _ _ h => h) (Or.inl ⟨by rfl, ?_⟩) (by assumption) ?_
                            rotate_left
                            first | (focus ((intro w hSw; (try dsimp only at hSw); go_simp); (try with_reducible rfl); done)) | fail
                            try simp only [Act.put, List.getElem_toArray, List.getElem_cons_zero, List.getElem_cons_succ, List.setIfInBounds_toArray, List.set_cons_zero, List.set_cons_succ]
                            refine wpAnyH_take (i := 20) (v := ?_) rfl (by kernel_rfl) (by kernel_rfl) (by kernel_rfl) (fun _ _ _ h => h) (Or.inl ⟨by rfl, ?_⟩) (by assumption) ?_
                            rotate_left
                            first | (focus ((intro w hSw; (try dsimp only at hSw); go_simp); (try with_reducible rfl); done)) | fail
                            try simp only [Act.put, List.getElem_toArray, List.getElem_cons_zero, List.getElem_cons_succ, List.setIfInBounds_toArray, List.set_cons_zero, List.set_cons_succ]
                            refine wpAnyH_take (i := 21) (v := ?_) rfl (by kernel_rfl) (by kernel_rfl) (by kernel_rfl) (fun _ _ _ h => h) (Or.inl ⟨by rfl, ?_⟩) (by assumption) ?_
                            rotate_left
                            first | (focus ((intro w hSw; (try dsimp only at hSw); go_simp); (try with_reducible rfl); done)) | fail
                            try simp only [Act.put, List.getElem_toArray, List.getElem_cons_zero, List.getElem_cons_succ, List.setIfInBounds_toArray, List.set_cons_zero, List.set_cons_succ]
                            refine wpAnyH_take (i := 22) (v := ?_) rfl (by kernel_rfl) (by kernel_rfl) (by kernel_rfl) (fun _ _ _ h => h) (Or.inl ⟨by rfl, ?_⟩) (by assumption) ?_
                            rotate_left
                            first | (focus ((intro w hSw; (try dsimp only at hSw); go_simp); (try with_reducible rfl); done)) | fail
                            try simp only [Act.put, List.getElem_toArray, List.getElem_cons_zero, List.getElem_cons_succ, List.setIfInBounds_toArray, List.set_cons_zero, List.set_cons_succ]
                            refine wpAnyH_take (i := 23) (v := ?_) rfl (by kernel_rfl) (by kernel_rfl) (by kernel_rfl) (fun _ _ _ h => h) (Or.inl ⟨by rfl, ?_⟩) (by assumption) ?_
                            rotate_left
                            first | (focus ((intro w hSw; (try dsimp only at hSw); go_simp); (try with_reducible rfl); done)) | fail
                            try simp only [Act.put, List.getElem_toArray, List.getElem_cons_zero, List.getElem_cons_succ, List.setIfInBounds_toArray, List.set_cons_zero, List.set_cons_succ]
                            refine wpAnyH_ready (rs := [24]) (by kernel_rfl) (by simp) ?_
                            refine AllReadyH.cons rfl (fun K hK => ?_) AllReadyH.nil
                            go_simp
                            refine (CL.out _).mono ?_; rintro r w6 ⟨rfl, b6⟩
                            go_wp2_with fail
                            refine hK.out _ _ ?_ (fun hHeld => ?_)
                            · (try dsimp only); (have b6' := below_of_le b6 B5.out.size; exact ⟨(b6'.cell (show _ < _ from hEl)).trans hHeld.1, range_below hHeld.2.1 b6' hbl, (b6'.cell (show _ < _ from hbl)).trans hHeld.2.2.1, (b6'.cell (show _ < _ from hbl)).trans hHeld.2.2.2.1, (b6'.cell (show _ < _ from hbl)).trans hHeld.2.2.2.2.1, (b6'.cell (show _ < _ from hbl)).trans hHeld.2.2.2.2.2.1, (b6'.cell (show _ < _ from hbl)).trans hHeld.2.2.2.2.2.2.1, (b6'.cell (show _ < _ from hbl)).trans hHeld.2.2.2.2.2.2.2⟩)
                            clear hK K
                            try simp only [Act.put, List.getElem_toArray, List.getElem_cons_zero, List.getElem_cons_succ, List.setIfInBounds_toArray, List.set_cons_zero, List.set_cons_succ]
                            have B6 := Lib.hid (B5.out.trans (below_of_le b6 B5.out.size))
                            clear b6
                            refine wpAnyH_take (i := 25) (v := ?_) rfl (by kernel_rfl) (by kernel_rfl) (by kernel_rfl) (fun _ _ _ h => h) (Or.inl ⟨by rfl, ?_⟩) (by assumption) ?_
                            rotate_left
                            first | (focus ((intro w hSw; (try dsimp only at hSw); go_simp); (try with_reducible rfl); done)) | fail
                            try simp only [Act.put, List.getElem_toArray, List.getElem_cons_zero, List.getElem_cons_succ, List.setIfInBounds_toArray, List.set_cons_zero, List.set_cons_succ]
                            refine wpAnyH_take (i := 26) (v := ?_) rfl (by kernel_rfl) (by kernel_rfl) (by kernel_rfl) (fun _ _ _ h => h) (Or.inl ⟨by rfl, ?_⟩) (by assumption) ?_
                            rotate_left
                            first | (focus ((intro w hSw; (try dsimp only at hSw); go_simp); (try with_reducible rfl); done)) | fail
                            try simp only [Act.put, List.getElem_toArray, List.getElem_cons_zero, List.getElem_cons_succ, List.setIfInBounds_toArray, List.set_cons_zero, List.set_cons_succ]
                            refine wpAnyH_take (i := 27) (v := ?_) rfl (by kernel_rfl) (by kernel_rfl) (by kernel_rfl) (fun _ _ _ h => h) (Or.inl ⟨by rfl, ?_⟩) (by assumption) ?_
                            rotate_left
                            first | (focus ((intro w hSw; (try dsimp only at hSw); go_simp); (try with_reducible rfl); done)) | fail
                            try simp only [Act.put, List.getElem_toArray, List.getElem_cons_zero, List.getElem_cons_succ, List.setIfInBounds_toArray, List.set_cons_zero, List.set_cons_succ]
                            refine wpAnyH_done (by kernel_rfl) ?_ _
                            go_wp2
                            go_roundw
                            case rel => exact ⟨_, by omega, by go_num, okE_step HK.out.1 HXj.out HX.out, HK.out.2.drew.trans (below_of_le B6.out hNW)⟩
                            case measure => simp [intOf]; omega
                    · have hj' : ne = j := by omega
                      subst hj'
                      have HX := Lib.hid (show _ = true from HM.out.trans (HVL.out.trans (riseG_yes (fun k x hx => HK.out.1 k x (by have := (List.getElem?_eq_some_iff.1 hx).1; have h2 := HLn.out; simp [eds] at this; omega) hx))))
                      go_wp2
                      go_ret
                      exact ⟨ret_bool HX.out.symm, by rw [HN.out]; exact HB.out.trans (below_of_le HK.out.2 hEN)⟩
                · have tz : decide ((0 : Int) < (nm : Int)) = false := decide_eq_false (by omega)
                  have tz2 : decide (0 < nm) = false := decide_eq_false (by omega)
                  have tl : decide ((256 : Int) < (ne : Int)) = true := decide_eq_true (by omega)
                  have tl2 : decide (256 < ne) = true := decide_eq_true (by omega)
                  have HX := Lib.hid (show _ = false from HM.out.trans (by rw [HVL.out, decide_eq_false h256]; simp))
                  clear HM HVL hz
                  go_enter Tryz.func8, Tryz.ntmps8
                  go_wp2
                  go_ret
                  exact ⟨ret_bool HX.out.symm, HB.out⟩
              · have tz : decide ((0 : Int) < (nm : Int)) = true := decide_eq_true (by omega)
                have tz2 : decide (0 < nm) = true := decide_eq_true (by omega)
                have HX := Lib.hid (show _ = false from HM.out.trans (by rw [decide_eq_false hz]; rfl))
                clear HM HVL hz
                go_enter Tryz.func8, Tryz.ntmps8
                go_wp2
                go_ret
                exact ⟨ret_bool HX.out.symm, HB.out⟩
            · by_cases hk1 : kind = 1
              · have hk := hk1
                clear hk1 hk2
                subst hk
                have HM := Lib.hid (show msB (mlM ⟨1, frm, dst, marks, Am, cm, es, Ae, ce⟩) = (decide (ne = 0) && decide (chkE marks = 0)) from by unfold msB mlM; simp only; rw [hd, HVE.out]; rfl)
                clear hd HVM HVE HVL
                by_cases hz : ne = 0
                · have tz : ((ne : Int) == 0) = true := by simp [hz]
                  by_cases hc : chkE marks = 0
                  · have tc : ((chkE marks : Int) == 0) = true := by simp [hc]
                    have HX := Lib.hid (show _ = true from HM.out.trans (by rw [decide_eq_true hc, hz]; rfl))
                    generalize chkE marks = ck at *
                    clear HM hz hc
                    go_enter Tryz.func8, Tryz.ntmps8
                    go_wp2_with fail
                    refine (CK.out _ HB.out).mono ?_; rintro r w5 ⟨rfl, b5⟩
                    have B5 := Lib.hid (HB.out.trans (below_of_le b5 (by simp)))
                    clear b5
                    go_wp2
                    go_ret
                    exact ⟨ret_bool HX.out.symm, B5.out⟩
                  · have tc : ((chkE marks : Int) == 0) = false := by simp [hc]
                    have HX := Lib.hid (show _ = false from HM.out.trans (by rw [decide_eq_false hc, Bool.and_false]))
                    generalize chkE marks = ck at *
                    clear HM hz hc
                    go_enter Tryz.func8, Tryz.ntmps8
                    go_wp2_with fail
                    refine (CK.out _ HB.out).mono ?_; rintro r w5 ⟨rfl, b5⟩
                    have B5 := Lib.hid (HB.out.trans (below_of_le b5 (by simp)))
                    clear b5
                    go_wp2
                    go_ret
                    exact ⟨ret_bool HX.out.symm, B5.out⟩
                · have tz : ((ne : Int) == 0) = false := by simp [hz]
                  have HX := Lib.hid (show _ = false from HM.out.trans (by rw [decide_eq_false hz]; rfl))
                  clear HM hz
                  go_enter Tryz.func8, Tryz.ntmps8
                  go_wp2
                  go_ret
                  exact ⟨ret_bool HX.out.symm, HB.out⟩
              · by_cases hk3 : kind = 3
                · have hk := hk3
                  clear hk1 hk2 hk3
                  subst hk
                  have HM := Lib.hid (show msB (mlM ⟨3, frm, dst, marks, Am, cm, es, Ae, ce⟩) = (decide (ne = 0) && decide (chkE marks = 0)) from by unfold msB mlM; simp only; rw [hd, HVE.out]; rfl)
                  clear hd HVM HVE HVL
                  by_cases hz : ne = 0
                  · have tz : ((ne : Int) == 0) = true := by simp [hz]
                    by_cases hc : chkE marks = 0
                    · have tc : ((chkE marks : Int) == 0) = true := by simp [hc]
                      have HX := Lib.hid (show _ = true from HM.out.trans (by rw [decide_eq_true hc, hz]; rfl))
                      generalize chkE marks = ck at *
                      clear HM hz hc
                      go_enter Tryz.func8, Tryz.ntmps8
                      go_wp2_with fail
                      refine (CK.out _ HB.out).mono ?_; rintro r w5 ⟨rfl, b5⟩
                      have B5 := Lib.hid (HB.out.trans (below_of_le b5 (by simp)))
                      clear b5
                      go_wp2
                      go_ret
                      exact ⟨ret_bool HX.out.symm, B5.out⟩
                    · have tc : ((chkE marks : Int) == 0) = false := by simp [hc]
                      have HX := Lib.hid (show _ = false from HM.out.trans (by rw [decide_eq_false hc, Bool.and_false]))
                      generalize chkE marks = ck at *
                      clear HM hz hc
                      go_enter Tryz.func8, Tryz.ntmps8
                      go_wp2_with fail
                      refine (CK.out _ HB.out).mono ?_; rintro r w5 ⟨rfl, b5⟩
                      have B5 := Lib.hid (HB.out.trans (below_of_le b5 (by simp)))
                      clear b5
                      go_wp2
                      go_ret
                      exact ⟨ret_bool HX.out.symm, B5.out⟩
                  · have tz : ((ne : Int) == 0) = false := by simp [hz]
                    have HX := Lib.hid (show _ = false from HM.out.trans (by rw [decide_eq_false hz]; rfl))
                    clear HM hz
                    go_enter Tryz.func8, Tryz.ntmps8
                    go_wp2
                    go_ret
                    exact ⟨ret_bool HX.out.symm, HB.out⟩
                · have t1 : (kind == 1) = false := by simp [hk1]
                  have t2 : (kind != 2) = true := by simp [hk2]
                  have t3' : (kind == 3) = false := by simp [hk3]
                  have HX := Lib.hid (show msB (mlM ⟨kind, frm, dst, marks, Am, cm, es, Ae, ce⟩) = false from by unfold msB mlM; simp only; rw [if_neg hk2, if_neg (by omega), Bool.and_false])
                  clear hd HVM HVE HVL hk1 hk2 hk3
                  go_enter Tryz.func8, Tryz.ntmps8
                  go_wp2
                  go_ret
                  exact ⟨ret_bool HX.out.symm, HB.out⟩
        · have t4 : decide ((63 : Int) < dst) = true := decide_eq_true (by omega)
          have HX := Lib.hid (show msB (mlM ⟨kind, frm, dst, marks, Am, cm, es, Ae, ce⟩) = false from by unfold msB mlM devB; simp only; rw [decide_eq_false (show ¬ dst < 64 by omega)]; simp)
          clear h1 h2 h3 h4 CK HVM HVE HVL HEs HSH HLn
          go_enter Tryz.func8, Tryz.ntmps8
          go_wp2
          go_ret
          exact ⟨ret_bool HX.out.symm, HB.out⟩
      · have t3 : decide (dst < 0) = true := decide_eq_true (by omega)
        have HX := Lib.hid (show msB (mlM ⟨kind, frm, dst, marks, Am, cm, es, Ae, ce⟩) = false from by unfold msB mlM devB; simp only; rw [decide_eq_false (show ¬ 0 ≤ dst by omega)]; simp)
        clear h1 h2 h3 CK HVM HVE HVL HEs HSH HLn
        go_enter Tryz.func8, Tryz.ntmps8
        go_wp2
        go_ret
        exact ⟨ret_bool HX.out.symm, HB.out⟩
    · have t2 : decide ((63 : Int) < frm) = true := decide_eq_true (by omega)
      have HX := Lib.hid (show msB (mlM ⟨kind, frm, dst, marks, Am, cm, es, Ae, ce⟩) = false from by unfold msB mlM devB; simp only; rw [decide_eq_false (show ¬ frm < 64 by omega)]; simp)
      clear h1 h2 CK HVM HVE HVL HEs HSH HLn
      go_enter Tryz.func8, Tryz.ntmps8
      go_wp2
      go_ret
      exact ⟨ret_bool HX.out.symm, HB.out⟩
  · have t1 : decide (frm < 0) = true := decide_eq_true (by omega)
    have HX := Lib.hid (show msB (mlM ⟨kind, frm, dst, marks, Am, cm, es, Ae, ce⟩) = false from by unfold msB mlM devB; simp only; rw [decide_eq_false (show ¬ 0 ≤ frm by omega)]; simp)
    clear h1 CK HVM HVE HVL HEs HSH HLn
    go_enter Tryz.func8, Tryz.ntmps8
    go_wp2
    go_ret
    exact ⟨ret_bool HX.out.symm, HB.out⟩
end Go.Proofs.YtpakmeegldgjmaaGreat
/- Layer 35 (msg): awake. -/
namespace Go.Proofs.YtpakmeegldgjmaaGreat
open Go.RowKit
set_option linter.unusedVariables false
set_option linter.unusedSimpArgs false
set_option maxRecDepth 100000
attribute [local go_sem ↓] Go.wp_at_zero Go.wp_at_succ
attribute [local go_sem] bs_size bs_list bs_nil_list

theorem ml_none (w : World) (B : Nat) (k f d : Int) : MlAt w B ⟨k, f, d, [], none, 0, [], none, 0⟩ := ⟨⟨rfl, fun h => absurd h (by simp)⟩, ⟨⟨rfl, fun h => absurd h (by simp)⟩, by simp⟩⟩
/-- The bytes of a message that may be, parsed. -/
theorem parse_bytes (m : Md) (hq : msB m = true) (hlm : m.marks.length ≤ 1000) (h64 : m.evs.length ≤ 64) (A : Option Addr) (c : Nat) (B : Nat) (w : World) (ho : Own w B 5 1 A (msF m).length c (bv (msF m))) (hl : (msF m).length ≤ 1000000) :
    Calls Tryz.prog 11 #[.slice A (msF m).length c] w (ParE w m) :=
  msgparse_any m hq hlm h64 A _ c w (by have := ho.rd; exact this) hl ho.2.1 ho.2.2
theorem frm_len {l : List UInt8} (h : l.length < 18446744073709551616) : (Go.Proofs.YtpakmeegldgjmaaGreat.frm l).length ≤ l.length + 14 := by
  unfold Go.Proofs.YtpakmeegldgjmaaGreat.frm
  have := vput_le h
  simp only [List.length_append, leB_length]
  omega
theorem msF_len {m : Md} (h : msB m = true) (hm : m.marks.length ≤ 1000) (he : m.evs.length ≤ 64) : (msF m).length ≤ 300014 := by
  have h1 := msP_len h hm he
  have h2 := frm_len (l := msP m) (by omega)
  unfold msF
  omega
set_option maxHeartbeats 2000000 in
theorem awake35_any (w : World) : Calls Tryz.prog 5 #[] w fun r w' => r = .returned (.bool true) ∧ Below w.heap.size w w' := by
  have hq : msB (mlM ⟨3, 0, 1, [], none, 0, [], none, 0⟩) = true := by decide +kernel
  have CB := Lib.hid (msgbytes_any ⟨3, 0, 1, [], none, 0, [], none, 0⟩ w (ml_none _ _ _ _ _) ⟨by intro y hy; simp at hy, by simp, by simp⟩ (by simp) hq)
  have hl := msF_len hq (by simp [mlM]) (by simp [mlM, eds])
  have CP := Lib.hid (fun A c W ho => parse_bytes (mlM ⟨3, 0, 1, [], none, 0, [], none, 0⟩) hq (by simp [mlM]) (by simp [mlM, eds]) A c w.heap.size W ho (by omega))
  have HM := Lib.hid (show mlM ⟨3, 0, 1, [], none, 0, [], none, 0⟩ = ⟨3, 0, 1, [], []⟩ from rfl)
  clear hq hl
  unfold mlC at CB
  simp only [List.length_nil] at CB
  rw [HM.out] at CP CB
  generalize msF ⟨3, 0, 1, [], []⟩ = F at *
  rw [show (((0 : Nat) : Nat) : Nat) = 0 from rfl] at CB
  go_enter Tryz.func5, Tryz.ntmps5
  go_wp2_with fail
  refine CB.out.mono ?_; rintro r w1 ⟨A1, c1, rfl, o1, b1⟩
  have CP1 := Lib.hid (CP.out A1 c1 w1 o1)
  have B1 := Lib.hid b1
  clear o1 b1
  go_wp2_with fail
  refine CP1.out.mono ?_; rintro r w2 ⟨x, rfl, hx, hA, b2⟩
  have B2 := Lib.hid (B1.out.trans (below_of_le b2 B1.out.size))
  obtain ⟨kind, frm', dst, marks, Am, cm, es, Ae, ce⟩ := x
  unfold mlM at hx
  simp only [Md.mk.injEq] at hx
  obtain ⟨rfl, rfl, rfl, rfl, hx⟩ := hx
  have B3 := Lib.hid (show Below w.heap.size w (w2.alloc (.cells #[.int .i64 3, .int .i64 0, .int .i64 1, .slice Am 0 cm, .slice Ae es.length ce] 30)) from B2.out.alloc B2.out.size _)
  unfold mlC
  simp only [List.length_nil]
  clear b2 hA hx
  go_wp2
  go_ret
  exact ⟨rfl, B3.out⟩
end Go.Proofs.YtpakmeegldgjmaaGreat
/- The openers of api.Event and api.Message, in slices. -/
namespace Go.Proofs.YtpakmeegldgjmaaGreat
open Go.ChangeShapes Go.WideShapes Go.ChangeAt Go.RowKit Go.Deep
set_option linter.unusedVariables false
set_option maxRecDepth 100000

section
variable {H : Type} {enc : TypeId × Value → H} {W : World} {fuel : Nat} {cs : List Value} {x : DataW H × List MemPlace}
theorem bs_self (s : ByteArray) : ∃ l, s = bs l := ⟨s.data.toList, by cases s; simp [bs]⟩
theorem dotT_of_trod (hf : DataW.trod enc Tryz.prog W 0 (fun _ => true) true fuel 50 cs = some x) : ∃ y : Dt, cs = dtC y ∧ dB y := by
  have hC : Tryz.prog.cellsOf 50 = 3 := by kernel_rfl
  have hCA : Tryz.prog.cellsOf 48 = 2 := by kernel_rfl
  have hC1 : Tryz.prog.cellsOf 3 = 1 := by kernel_rfl
  obtain ⟨y0, y1, n, _, hl, h0, h1⟩ := trod_struct2 Tryz.underlying50 hf
  rw [hC] at hl
  obtain ⟨c0, c1, c2, rfl⟩ : ∃ a b c, cs = [a, b, c] := by
    match cs, hl with
    | [a, b, c], _ => exact ⟨a, b, c, rfl⟩
  simp only [hCA, hC1] at h0 h1
  obtain ⟨z0, z1, n', _, hl', g0, g1⟩ := trod_struct2 Tryz.underlying48 h0
  simp only [hC1] at g0 g1
  obtain ⟨a, e0, _, w0⟩ := DataW.trod_int Tryz.underlying3 g0
  obtain ⟨b, e1, _, w1⟩ := DataW.trod_int Tryz.underlying3 g1
  obtain ⟨c, e2, _, w2⟩ := DataW.trod_int Tryz.underlying3 h1
  simp at e0 e1 e2
  subst e0 e1 e2
  exact ⟨((a, b), c), rfl, bounds_i64 w0, bounds_i64 w1, bounds_i64 w2⟩
theorem dots_of_trod (hf : DataW.trod enc Tryz.prog W 0 (fun _ => true) true fuel 57 cs = some x) : ∃ A c L, cs = [.slice A L.length c] ∧ L.length ≤ c ∧ c ≤ maxLen ∧ Ds W W.heap.size A L ∧ ∀ y ∈ L, dB y :=
  elems_of_trod dtC dB ((0, 0), 0) Tryz.underlying57 (by kernel_rfl) (by omega) dtC_len (fun fuel cs x hx => dotT_of_trod hx) hf
theorem marksT_of_trod (hf : DataW.trod enc Tryz.prog W 0 (fun _ => true) true fuel 27 cs = some x) : ∃ A c L, cs = [.slice A L.length c] ∧ L.length ≤ c ∧ c ≤ maxLen ∧ Ds W W.heap.size A L ∧ ∀ y ∈ L, dB y :=
  elems_of_trod dtC dB ((0, 0), 0) Tryz.underlying27 (by kernel_rfl) (by omega) dtC_len (fun fuel cs x hx => by
    obtain ⟨d, i, s, rfl, h1, h2, h3⟩ := mark_of_trod hx
    exact ⟨((d, i), s), rfl, h1, h2, h3⟩) hf
theorem stampT_of_trod (hf : DataW.trod enc Tryz.prog W 0 (fun _ => true) true fuel 52 cs = some x) : ∃ a b c : Int, cs = [.int .i64 a, .int .i64 b, .int .i64 c] ∧ i64B a ∧ i64B b ∧ i64B c := by
  have hC : Tryz.prog.cellsOf 52 = 3 := by kernel_rfl
  have hC1 : Tryz.prog.cellsOf 3 = 1 := by kernel_rfl
  obtain ⟨y0, y1, y2, n, _, hl, h0, h1, h2⟩ := trod_struct3 Tryz.underlying52 hf
  rw [hC] at hl
  obtain ⟨c0, c1, c2, rfl⟩ : ∃ a b c, cs = [a, b, c] := by
    match cs, hl with
    | [a, b, c], _ => exact ⟨a, b, c, rfl⟩
  simp only [hC1] at h0 h1 h2
  obtain ⟨a, e0, _, w0⟩ := DataW.trod_int Tryz.underlying3 h0
  obtain ⟨b, e1, _, w1⟩ := DataW.trod_int Tryz.underlying3 h1
  obtain ⟨c, e2, _, w2⟩ := DataW.trod_int Tryz.underlying3 h2
  simp at e0 e1 e2
  subst e0 e1 e2
  exact ⟨a, b, c, rfl, bounds_i64 w0, bounds_i64 w1, bounds_i64 w2⟩
theorem key_of_trod (hf : DataW.trod enc Tryz.prog W 0 (fun _ => true) true fuel 54 cs = some x) : ∃ a b c : List UInt8, cs = [.string (bs a), .string (bs b), .string (bs c)] := by
  have hC : Tryz.prog.cellsOf 54 = 3 := by kernel_rfl
  have hC1 : Tryz.prog.cellsOf 9 = 1 := by kernel_rfl
  obtain ⟨y0, y1, y2, n, _, hl, h0, h1, h2⟩ := trod_struct3 Tryz.underlying54 hf
  rw [hC] at hl
  obtain ⟨c0, c1, c2, rfl⟩ : ∃ a b c, cs = [a, b, c] := by
    match cs, hl with
    | [a, b, c], _ => exact ⟨a, b, c, rfl⟩
  simp only [hC1] at h0 h1 h2
  obtain ⟨a, e0, _, w0⟩ := DataW.trod_string Tryz.underlying9 h0
  obtain ⟨b, e1, _, w1⟩ := DataW.trod_string Tryz.underlying9 h1
  obtain ⟨c, e2, _, w2⟩ := DataW.trod_string Tryz.underlying9 h2
  simp at e0 e1 e2
  subst e0 e1 e2
  obtain ⟨a, rfl⟩ := bs_self a
  obtain ⟨b, rfl⟩ := bs_self b
  obtain ⟨c, rfl⟩ := bs_self c
  exact ⟨a, b, c, rfl⟩
theorem cookie_of_trod (hf : DataW.trod enc Tryz.prog W 0 (fun _ => true) true fuel 56 cs = some x) : ∃ (v : List UInt8) (a b c d : Bool) (i j k : Int), cs = [.string (bs v), .bool a, .bool b, .bool c, .bool d, .int .i64 i, .int .i64 j, .int .i64 k] ∧ i64B i ∧ i64B j ∧ i64B k := by
  have hC : Tryz.prog.cellsOf 56 = 8 := by kernel_rfl
  have hC1 : Tryz.prog.cellsOf 3 = 1 := by kernel_rfl
  have hC2 : Tryz.prog.cellsOf 4 = 1 := by kernel_rfl
  have hC3 : Tryz.prog.cellsOf 9 = 1 := by kernel_rfl
  obtain ⟨xs, n, _, _, hl, hlen, hg⟩ := DataW.trod_struct Tryz.underlying56 hf
  rw [hC] at hl
  obtain ⟨c0, c1, c2, c3, c4, c5, c6, c7, rfl⟩ : ∃ a b c d e f g h, cs = [a, b, c, d, e, f, g, h] := by
    match cs, hl with
    | [a, b, c, d, e, f, g, h], _ => exact ⟨a, b, c, d, e, f, g, h, rfl⟩
  match xs, hlen with
  | [y0, y1, y2, y3, y4, y5, y6, y7], _ =>
    have h0 : DataW.trod enc Tryz.prog W 0 (fun _ => true) true n 9 (([c0, c1, c2, c3, c4, c5, c6, c7].drop 0).take (Tryz.prog.cellsOf 9)) = some y0 := hg 0 _ rfl
    have h1 : DataW.trod enc Tryz.prog W 0 (fun _ => true) true n 4 (([c0, c1, c2, c3, c4, c5, c6, c7].drop 1).take (Tryz.prog.cellsOf 4)) = some y1 := hg 1 _ rfl
    have h2 : DataW.trod enc Tryz.prog W 0 (fun _ => true) true n 4 (([c0, c1, c2, c3, c4, c5, c6, c7].drop 2).take (Tryz.prog.cellsOf 4)) = some y2 := hg 2 _ rfl
    have h3 : DataW.trod enc Tryz.prog W 0 (fun _ => true) true n 4 (([c0, c1, c2, c3, c4, c5, c6, c7].drop 3).take (Tryz.prog.cellsOf 4)) = some y3 := hg 3 _ rfl
    have h4 : DataW.trod enc Tryz.prog W 0 (fun _ => true) true n 4 (([c0, c1, c2, c3, c4, c5, c6, c7].drop 4).take (Tryz.prog.cellsOf 4)) = some y4 := hg 4 _ rfl
    have h5 : DataW.trod enc Tryz.prog W 0 (fun _ => true) true n 3 (([c0, c1, c2, c3, c4, c5, c6, c7].drop 5).take (Tryz.prog.cellsOf 3)) = some y5 := hg 5 _ rfl
    have h6 : DataW.trod enc Tryz.prog W 0 (fun _ => true) true n 3 (([c0, c1, c2, c3, c4, c5, c6, c7].drop 6).take (Tryz.prog.cellsOf 3)) = some y6 := hg 6 _ rfl
    have h7 : DataW.trod enc Tryz.prog W 0 (fun _ => true) true n 3 (([c0, c1, c2, c3, c4, c5, c6, c7].drop 7).take (Tryz.prog.cellsOf 3)) = some y7 := hg 7 _ rfl
    rw [hC1] at h5 h6 h7
    rw [hC2] at h1 h2 h3 h4
    rw [hC3] at h0
    obtain ⟨v, e0, _, _⟩ := DataW.trod_string Tryz.underlying9 h0
    obtain ⟨a, e1, _⟩ := DataW.trod_bool Tryz.underlying4 h1
    obtain ⟨b, e2, _⟩ := DataW.trod_bool Tryz.underlying4 h2
    obtain ⟨c, e3, _⟩ := DataW.trod_bool Tryz.underlying4 h3
    obtain ⟨d, e4, _⟩ := DataW.trod_bool Tryz.underlying4 h4
    obtain ⟨i, e5, _, w5⟩ := DataW.trod_int Tryz.underlying3 h5
    obtain ⟨j, e6, _, w6⟩ := DataW.trod_int Tryz.underlying3 h6
    obtain ⟨k, e7, _, w7⟩ := DataW.trod_int Tryz.underlying3 h7
    simp at e0 e1 e2 e3 e4 e5 e6 e7
    subst e0 e1 e2 e3 e4 e5 e6 e7
    obtain ⟨v, rfl⟩ := bs_self v
    exact ⟨v, a, b, c, d, i, j, k, rfl, bounds_i64 w5, bounds_i64 w6, bounds_i64 w7⟩
/-- An event that came in. -/
structure ElOk (W : World) (y : El) : Prop where
  dot : dB y.e.dot
  ds : Ds W W.heap.size y.A y.e.over
  over : ∀ d ∈ y.e.over, dB d
  len : y.e.over.length ≤ y.c
  cap : y.c ≤ maxLen
theorem event_of_trod (hf : DataW.trod enc Tryz.prog W 0 (fun _ => true) true fuel 59 cs = some x) : ∃ y : El, cs = elC y ∧ ElOk W y := by
  have hC : Tryz.prog.cellsOf 59 = 19 := by kernel_rfl
  have hC0 : Tryz.prog.cellsOf 50 = 3 := by kernel_rfl
  have hC1 : Tryz.prog.cellsOf 52 = 3 := by kernel_rfl
  have hC2 : Tryz.prog.cellsOf 3 = 1 := by kernel_rfl
  have hC3 : Tryz.prog.cellsOf 54 = 3 := by kernel_rfl
  have hC4 : Tryz.prog.cellsOf 56 = 8 := by kernel_rfl
  have hC5 : Tryz.prog.cellsOf 57 = 1 := by kernel_rfl
  obtain ⟨xs, n, _, _, hl, hlen, hg⟩ := DataW.trod_struct Tryz.underlying59 hf
  rw [hC] at hl
  match xs, hlen with
  | [y0, y1, y2, y3, y4, y5], _ =>
    have h0 : DataW.trod enc Tryz.prog W 0 (fun _ => true) true n 50 ((cs.drop 0).take (Tryz.prog.cellsOf 50)) = some y0 := hg 0 _ rfl
    have h1 : DataW.trod enc Tryz.prog W 0 (fun _ => true) true n 52 ((cs.drop 3).take (Tryz.prog.cellsOf 52)) = some y1 := hg 1 _ rfl
    have h2 : DataW.trod enc Tryz.prog W 0 (fun _ => true) true n 3 ((cs.drop 6).take (Tryz.prog.cellsOf 3)) = some y2 := hg 2 _ rfl
    have h3 : DataW.trod enc Tryz.prog W 0 (fun _ => true) true n 54 ((cs.drop 7).take (Tryz.prog.cellsOf 54)) = some y3 := hg 3 _ rfl
    have h4 : DataW.trod enc Tryz.prog W 0 (fun _ => true) true n 56 ((cs.drop 10).take (Tryz.prog.cellsOf 56)) = some y4 := hg 4 _ rfl
    have h5 : DataW.trod enc Tryz.prog W 0 (fun _ => true) true n 57 ((cs.drop 18).take (Tryz.prog.cellsOf 57)) = some y5 := hg 5 _ rfl
    rw [hC0] at h0
    rw [hC1] at h1
    rw [hC2] at h2
    rw [hC3] at h3
    rw [hC4] at h4
    rw [hC5] at h5
    obtain ⟨d, e0, w0⟩ := dotT_of_trod h0
    obtain ⟨s1, s2, s3, e1, _, _, _⟩ := stampT_of_trod h1
    obtain ⟨k, e2, _, _⟩ := DataW.trod_int Tryz.underlying3 h2
    obtain ⟨nm, dm, pt, e3⟩ := key_of_trod h3
    obtain ⟨v, a, b, c, f, i, j, l, e4, _, _, _⟩ := cookie_of_trod h4
    obtain ⟨A, cc, L, e5, w1, w2, w3, w4⟩ := dots_of_trod h5
    refine ⟨⟨⟨d, (s1, s2, s3), k, nm, dm, pt, v, a, b, c, f, i, j, l, L⟩, A, cc⟩, ?_, ⟨w0, w3, w4, w1, w2⟩⟩
    have hcs : cs = (cs.drop 0).take 3 ++ ((cs.drop 3).take 3 ++ ((cs.drop 6).take 1 ++ ((cs.drop 7).take 3 ++ ((cs.drop 10).take 8 ++ (cs.drop 18).take 1)))) := by
      match cs, hl with
      | [_, _, _, _, _, _, _, _, _, _, _, _, _, _, _, _, _, _, _], _ => rfl
    rw [hcs, e0, e1, e2, e3, e4, e5]
    rfl
theorem events_of_trod (hf : DataW.trod enc Tryz.prog W 0 (fun _ => true) true fuel 28 cs = some x) : ∃ A c Es, cs = [.slice A Es.length c] ∧ Es.length ≤ c ∧ c ≤ maxLen ∧ EsAt W W.heap.size A Es ∧ ∀ y ∈ Es, ElOk W y := by
  obtain ⟨A, c, L, h1, h2, h3, h4, h5⟩ := elems_of_trod elC (ElOk W) ⟨⟨((0, 0), 0), (0, 0, 0), 0, [], [], [], [], false, false, false, false, 0, 0, 0, []⟩, none, 0⟩ Tryz.underlying28 (by kernel_rfl) (by omega) elC_len (fun fuel cs x hx => event_of_trod hx) hf
  exact ⟨A, c, L, h1, h2, h3, ⟨h4, fun y hy => (h5 y hy).ds⟩, h5⟩
/-- A message that came in. -/
structure MlIn (W : World) (y : Ml) : Prop where
  at_ : MlAt W W.heap.size y
  ev : ∀ z ∈ y.es, ElOk W z
  mk_ : ∀ d ∈ y.marks, dB d
  l1 : y.marks.length ≤ y.cm
  l2 : y.cm ≤ maxLen
  l3 : y.es.length ≤ y.ce
  l4 : y.ce ≤ maxLen
def mlL (y : Ml) : List Value := (mlC y).toList
theorem mlL_len (y : Ml) : (mlL y).length = 5 := rfl
theorem msg_of_trod (hf : DataW.trod enc Tryz.prog W 0 (fun _ => true) true fuel 30 cs = some x) : ∃ y : Ml, cs = mlL y ∧ MlIn W y := by
  have hC : Tryz.prog.cellsOf 30 = 5 := by kernel_rfl
  have hC1 : Tryz.prog.cellsOf 3 = 1 := by kernel_rfl
  have hC2 : Tryz.prog.cellsOf 27 = 1 := by kernel_rfl
  have hC3 : Tryz.prog.cellsOf 28 = 1 := by kernel_rfl
  obtain ⟨xs, n, _, _, hl, hlen, hg⟩ := DataW.trod_struct Tryz.underlying30 hf
  rw [hC] at hl
  obtain ⟨c0, c1, c2, c3, c4, rfl⟩ : ∃ a b c d e, cs = [a, b, c, d, e] := by
    match cs, hl with
    | [a, b, c, d, e], _ => exact ⟨a, b, c, d, e, rfl⟩
  match xs, hlen with
  | [y0, y1, y2, y3, y4], _ =>
    have h0 : DataW.trod enc Tryz.prog W 0 (fun _ => true) true n 3 (([c0, c1, c2, c3, c4].drop 0).take (Tryz.prog.cellsOf 3)) = some y0 := hg 0 _ rfl
    have h1 : DataW.trod enc Tryz.prog W 0 (fun _ => true) true n 3 (([c0, c1, c2, c3, c4].drop 1).take (Tryz.prog.cellsOf 3)) = some y1 := hg 1 _ rfl
    have h2 : DataW.trod enc Tryz.prog W 0 (fun _ => true) true n 3 (([c0, c1, c2, c3, c4].drop 2).take (Tryz.prog.cellsOf 3)) = some y2 := hg 2 _ rfl
    have h3 : DataW.trod enc Tryz.prog W 0 (fun _ => true) true n 27 (([c0, c1, c2, c3, c4].drop 3).take (Tryz.prog.cellsOf 27)) = some y3 := hg 3 _ rfl
    have h4 : DataW.trod enc Tryz.prog W 0 (fun _ => true) true n 28 (([c0, c1, c2, c3, c4].drop 4).take (Tryz.prog.cellsOf 28)) = some y4 := hg 4 _ rfl
    rw [hC1] at h0 h1 h2
    rw [hC2] at h3
    rw [hC3] at h4
    obtain ⟨a, e0, _, _⟩ := DataW.trod_int Tryz.underlying3 h0
    obtain ⟨b, e1, _, _⟩ := DataW.trod_int Tryz.underlying3 h1
    obtain ⟨c, e2, _, _⟩ := DataW.trod_int Tryz.underlying3 h2
    obtain ⟨A, cm, L, e3, w1, w2, w3, w4⟩ := marksT_of_trod h3
    obtain ⟨Ae, ce, Es, e4, u1, u2, u3, u4⟩ := events_of_trod h4
    simp at e0 e1 e2 e3 e4
    subst e0 e1 e2 e3 e4
    exact ⟨⟨a, b, c, L, A, cm, Es, Ae, ce⟩, rfl, ⟨⟨w3, u3⟩, u4, w4, w1, w2, u1, u2⟩⟩
end
/-- A slice of messages. -/
structure MsgsAt (w : World) (B : Nat) (A : Option Addr) (Ms : List Ml) : Prop where
  rd : Rd w B 5 A Ms.length (Ms.flatMap mlL)
  at_ : ∀ y ∈ Ms, MlAt w B y
theorem MsgsAt.below {w w' : World} {B : Nat} {A : Option Addr} {Ms : List Ml} (h : MsgsAt w B A Ms) (b : Below B w w') : MsgsAt w' B A Ms := ⟨h.rd.below b, fun y hy => (h.at_ y hy).below b⟩
theorem MsgsAt.more {w : World} {B B' : Nat} {A : Option Addr} {Ms : List Ml} (h : MsgsAt w B A Ms) (b : B ≤ B') : MsgsAt w B' A Ms := ⟨h.rd.more b, fun y hy => (h.at_ y hy).more b⟩
theorem MsgsAt.up {w w' : World} {A : Option Addr} {Ms : List Ml} (h : MsgsAt w w.heap.size A Ms) (b : Below w.heap.size w w') : MsgsAt w' w'.heap.size A Ms := (h.below b).more b.size
theorem MsgsAt.get_ {w : World} {B i : Nat} {A : Option Addr} {Ms : List Ml} {x : Ml} (h : MsgsAt w B A Ms) (hx : Ms[i]? = some x) :
    ∃ b o, A = some ⟨b, o, none⟩ ∧ b < B ∧ w.rangeAt b (o + i * 5) (mlC x).toList ∧ MlAt w B x := by
  obtain ⟨b, o, h1, h2, h3⟩ := rd_range (by omega) mlL_len h.rd hx
  exact ⟨b, o, h1, h2, h3, h.at_ x (List.mem_of_getElem? hx)⟩
def IsMsgs (w : World) (v : Value) : Prop := ∃ A c Ms, v = .slice A (Ms : List Ml).length c ∧ Ms.length ≤ c ∧ c ≤ maxLen ∧ MsgsAt w w.heap.size A Ms ∧ ∀ y ∈ Ms, MlIn w y
theorem open_msgs {H : Type} {enc : TypeId × Value → H} {W : World} {base : Nat} {v : Value} {d : DataW H} {p : List MemPlace} (hv : Value.okWide Tryz.prog W .any base 22 v)
    (h : DataW.Trod enc Tryz.prog W 0 (fun _ => true) true 22 v d p) : IsMsgs W v := by
  obtain ⟨A, n, c, rfl⟩ := okWide_slice Tryz.underlying22 hv
  obtain ⟨fuel, hf⟩ := h
  obtain ⟨A', c', L, e, h1, h2, h3, h4⟩ := elems_of_trod mlL (MlIn W) ⟨0, 0, 0, [], none, 0, [], none, 0⟩ Tryz.underlying22 (by kernel_rfl) (by omega) mlL_len (fun fuel cs x hx => msg_of_trod hx) hf
  simp [Value.cells] at e
  obtain ⟨rfl, rfl, rfl⟩ := e
  exact ⟨_, _, L, rfl, h1, h2, ⟨h3, fun y hy => (h4 y hy).at_⟩, h4⟩
end Go.Proofs.YtpakmeegldgjmaaGreat
/- TopWire: appends of messages, of whole numbers; what is told while messages are gone over; plain laws. -/
namespace Go.Proofs.YtpakmeegldgjmaaGreat
open Go.RowKit
set_option linter.unusedVariables false
set_option linter.unusedSimpArgs false
set_option maxRecDepth 100000
attribute [local go_sem ↓] Go.wp_at_zero Go.wp_at_succ

theorem info_in : (Tryz.prog.info? 3).map (fun i => (i.zero, i.size, i.bytes)) = some (some (.int .i64 0), 1, 8) := by kernel_rfl
theorem app1i (w : World) (base : Nat) (A : Option Addr) (n c : Nat) (xs : List Value) (hown : Own w base 3 1 A n c xs) (p : Int) (hlen : n ≤ 300000000) (hbase : base ≤ w.heap.size) :
    ∃ A2 c2 w', (Builtin.append_ #[25, 25] 25 #[.slice A n c, .slice (some ⟨w.heap.size, 0, none⟩) 1 1]).run Tryz.prog (w.alloc (.cells #[.int .i64 p] 3)) = .ok (.slice A2 (n + 1) c2) w' ∧
      Own w' base 3 1 A2 (n + 1) c2 (xs ++ [.int .i64 p]) ∧ Ch (fun k => some k = bl A) w w' ∧ Below base w w' := by
  obtain ⟨i0, hi, hz0, hz1, hz2⟩ := info_parts info_in
  have hr : Rd (w.alloc (.cells #[.int .i64 p] 3)) (w.heap.size + 1) 1 (some ⟨w.heap.size, 0, none⟩) 1 [.int .i64 p] := Rd.fresh w #[.int .i64 p] 3 1 rfl
  obtain ⟨A2, c2, w', h1, h2, h3, _⟩ := run_append_rdn (P := Tryz.prog) (w.alloc (.cells #[.int .i64 p] 3)) 25 25 base 3 i0 (.int .i64 0) 1 8 Tryz.underlying25 hi hz0 hz1 hz2 rfl (by decide) (by decide) A n c xs (hown.alloc _) (w.heap.size + 1) _ 1 1 [.int .i64 p] hr (by simp [Value.oneCell']) (by omega) (by simp; omega)
  exact ⟨A2, c2, w', h1, h2, (Ch.alloc_ _ w _).trans (grown_ch h3) (fun k _ h => h), ((Below.refl base w).alloc hbase _).grown h3 (by simp; omega) hown.bl_lo⟩
theorem mlL_one (x : Ml) : ∀ u ∈ mlL x, u.oneCell' = true := by
  intro u hu
  have h : (mlL x).all (·.oneCell') = true := rfl
  exact List.all_eq_true.1 h u hu
theorem app1m (w : World) (base : Nat) (A : Option Addr) (n c : Nat) (xs : List Value) (hown : Own w base 30 5 A n c xs) (x : Ml) (hlen : n ≤ 300000000) (hbase : base ≤ w.heap.size) :
    ∃ A2 c2 w', (Builtin.append_ #[22, 22] 22 #[.slice A n c, .slice (some ⟨w.heap.size, 0, none⟩) 1 1]).run Tryz.prog (w.alloc (.cells (mlC x) 30)) = .ok (.slice A2 (n + 1) c2) w' ∧ Own w' base 30 5 A2 (n + 1) c2 (xs ++ mlL x) ∧
      Ch (fun k => some k = bl A) w w' ∧ Below base w w' := by
  obtain ⟨i0, hi, hz0, hz1, hz2⟩ := info_parts info_ms
  have hr : Rd (w.alloc (.cells (mlC x) 30)) (w.heap.size + 1) 5 (some ⟨w.heap.size, 0, none⟩) 1 (mlL x) :=
    ⟨rfl, fun _ => ⟨_, _, rfl, by omega, fun j u hu => by rw [(Whole.new w 30 (mlC x)).cell, Nat.zero_add, ← Array.getElem?_toList]; exact hu⟩⟩
  obtain ⟨A2, c2, w', q, o, g, nr⟩ := run_append_rdn (P := Tryz.prog) (w.alloc (.cells (mlC x) 30)) 22 22 base 30 i0 (.agg #[.int .i64 0, .int .i64 0, .int .i64 0, .slice none 0 0, .slice none 0 0]) 5 72 Tryz.underlying22 hi hz0 hz1 hz2 rfl (by decide) (by decide) A n c xs (hown.alloc _) (w.heap.size + 1) _ 1 1 (mlL x) hr (mlL_one x) (by omega) (by simp; omega)
  exact ⟨A2, c2, w', q, o, (Ch.alloc_ _ w _).trans (grown_ch g) (fun k _ h => h), ((Below.refl base w).alloc hbase _).grown g (by simp; omega) hown.bl_lo⟩
theorem own_one (w : World) (e : TypeId) (base : Nat) (v : Value) (h : base ≤ w.heap.size) : Own (w.alloc (.cells #[v] e)) base e 1 (some ⟨w.heap.size, 0, none⟩) 1 1 [v] :=
  ⟨⟨rfl, .inr ⟨w.heap.size, 1, #[v], rfl, h, heap_alloc_new w _, Nat.le_refl _, by simp [maxLen], rfl, rfl⟩⟩, Nat.le_refl _, by simp [maxLen]⟩
/-- A message's body. -/
def mP (y : Ml) : List UInt8 := msP (mlM y)
/-- The ends of all frames. -/
def endsV (R : List (List UInt8)) : List Value := (List.range (R.length + 1)).map fun i => .int .i64 ((fcat (R.take i)).length : Int)
theorem endsV_get (R : List (List UInt8)) {i : Nat} (h : i ≤ R.length) : (endsV R)[i]? = some (.int .i64 ((fcat (R.take i)).length : Int)) := by
  unfold endsV
  rw [List.getElem?_map, List.getElem?_range (by omega)]
  rfl
theorem endsV_snoc (R : List (List UInt8)) (l : List UInt8) : endsV (R ++ [l]) = endsV R ++ [.int .i64 ((fcat (R ++ [l])).length : Int)] := by
  unfold endsV
  rw [List.length_append, show R.length + [l].length + 1 = (R.length + 1) + 1 from rfl, List.range_succ, List.map_append]
  congr 1
  · refine List.map_congr_left fun i hi => ?_
    rw [List.take_append_of_le_length (by have := List.mem_range.1 hi; omega)]
  · simp [List.take_of_length_le]
/-- What is told while messages are gone over: their bytes, those that may be, the ends. -/
structure TW (w : World) (N : Nat) (W : World) (Aa : Option Addr) (ca : Nat) (Ar : Option Addr) (cr : Nat) (Ae : Option Addr) (ce : Nat) (R : List Ml) : Prop where
  al : Own W N 5 1 Aa (fcat (R.map mP)).length ca (bv (fcat (R.map mP)))
  ri : Own W N 30 5 Ar R.length cr (R.flatMap mlL)
  en : Own W N 3 1 Ae (R.length + 1) ce (endsV (R.map mP))
  bel : Below N w W
  sz : N ≤ W.heap.size
section
variable {w W W' : World} {N ca cr ce : Nat} {Aa Ar Ae : Option Addr} {R : List Ml}
theorem TW.below (h : TW w N W Aa ca Ar cr Ae ce R) (b : Below W.heap.size W W') : TW w N W' Aa ca Ar cr Ae ce R :=
  ⟨h.al.below b (Nat.le_refl _), h.ri.below b (Nat.le_refl _), h.en.below b (Nat.le_refl _), h.bel.trans (below_of_le b h.sz), Nat.le_trans h.sz b.size⟩
theorem TW.start (w : World) : TW w w.heap.size (((w.alloc (.cells #[] 5)).alloc (.cells #[] 30)).alloc (.cells #[.int .i64 0] 3)) (some ⟨w.heap.size, 0, none⟩) 0 (some ⟨w.heap.size + 1, 0, none⟩) 0 (some ⟨w.heap.size + 1 + 1, 0, none⟩) 1 [] := by
  have h1 := own_es w 5 1 w.heap.size (Nat.le_refl _)
  have h2 := own_es (w.alloc (.cells #[] 5)) 30 5 w.heap.size (by simp)
  have h3 := own_one ((w.alloc (.cells #[] 5)).alloc (.cells #[] 30)) 3 w.heap.size (.int .i64 0) (by simp; omega)
  have e2 : (w.alloc (.cells #[] 5)).heap.size = w.heap.size + 1 := by simp
  have e3 : ((w.alloc (.cells #[] 5)).alloc (.cells #[] 30)).heap.size = w.heap.size + 1 + 1 := by simp
  rw [e2] at h2
  rw [e3] at h3
  exact ⟨(h1.alloc _).alloc _, h2.alloc _, h3, (((Below.refl _ w).alloc (Nat.le_refl _) _).alloc (by simp) _).alloc (by simp; omega) _, by simp; omega⟩
/-- A message more. -/
theorem TW.step {x : Ml} {w1 w2 w3 : World} {A1 A2 A3 : Option Addr} {c1 c2 c3 : Nat} (h : TW w N W Aa ca Ar cr Ae ce R)
    (o1 : Own w1 N 5 1 A1 (fcat (R.map mP) ++ Go.Proofs.YtpakmeegldgjmaaGreat.frm (mP x)).length c1 (bv (fcat (R.map mP) ++ Go.Proofs.YtpakmeegldgjmaaGreat.frm (mP x)))) (k1 : Ch (fun k => some k = bl Aa) W w1) (b1 : Below N W w1)
    (o2 : Own w2 N 30 5 A2 (R.length + 1) c2 (R.flatMap mlL ++ mlL x)) (k2 : Ch (fun k => some k = bl Ar) w1 w2) (b2 : Below N w1 w2)
    (o3 : Own w3 N 3 1 A3 (R.length + 1 + 1) c3 (endsV (R.map mP) ++ [.int .i64 ((fcat (R.map mP) ++ Go.Proofs.YtpakmeegldgjmaaGreat.frm (mP x)).length : Int)])) (k3 : Ch (fun k => some k = bl Ae) w2 w3) (b3 : Below N w2 w3) :
    TW w N w3 A1 c1 A2 c2 A3 c3 (R ++ [x]) := by
  have e : fcat ((R ++ [x]).map mP) = fcat (R.map mP) ++ Go.Proofs.YtpakmeegldgjmaaGreat.frm (mP x) := by simp [fcat]
  have hri1 : Own w1 N 30 5 Ar R.length cr (R.flatMap mlL) := h.ri.ch k1 (fun j _ _ hj e => h.ri.apart h.al (by decide) j hj e.symm)
  have hen1 : Own w1 N 3 1 Ae (R.length + 1) ce (endsV (R.map mP)) := h.en.ch k1 (fun j _ _ hj e => h.en.apart h.al (by decide) j hj e.symm)
  have hal2 := o1.ch k2 (fun j _ _ hj e => o1.apart hri1 (by decide) j hj e.symm)
  have hen2 := hen1.ch k2 (fun j _ _ hj e => hen1.apart hri1 (by decide) j hj e.symm)
  have hal3 := hal2.ch k3 (fun j _ _ hj e => hal2.apart hen2 (by decide) j hj e.symm)
  have hri3 := o2.ch k3 (fun j _ _ hj e => o2.apart hen2 (by decide) j hj e.symm)
  refine ⟨by rw [e]; exact hal3, ?_, ?_, ((h.bel.trans b1).trans b2).trans b3, Nat.le_trans h.sz (Nat.le_trans k1.size (Nat.le_trans k2.size k3.size))⟩
  · rw [List.length_append, List.flatMap_append]
    simpa using hri3
  · rw [List.map_append, List.map_cons, List.map_nil, endsV_snoc, List.length_append]
    have e' : fcat (R.map mP ++ [mP x]) = fcat (R.map mP) ++ Go.Proofs.YtpakmeegldgjmaaGreat.frm (mP x) := by simp [fcat]
    rw [e']
    exact o3
end
end Go.Proofs.YtpakmeegldgjmaaGreat
/- The walk of the law TopWire. -/
namespace Go.Proofs.YtpakmeegldgjmaaGreat
open Go.RowKit
set_option linter.unusedVariables false
set_option linter.unusedSimpArgs false
set_option maxRecDepth 100000
attribute [local go_sem ↓] Go.wp_at_zero Go.wp_at_succ
attribute [local go_sem] bs_size bs_list bs_nil_list

theorem bs_ms (x : Ml) (w : World) : (Instr.buildSlice 22 1 #[(0, .agg (mlC x))]).run Tryz.prog w = .ok (.slice (some ⟨w.heap.size, 0, none⟩) 1 1) (w.alloc (.cells (mlC x) 30)) := by
  unfold mlC
  go_simp
theorem topWire_far (w : World) (A : Option Addr) (n c : Nat) (cut : Int) (h : 8 < n) :
    Calls Tryz.prog 3 #[.slice A n c, .int .i64 cut] w fun e w' => e = .returned (.bool true) ∧ Below w.heap.size w w' := by
  have C9 := Lib.hid awake35_any
  go_enter Tryz.func3, Tryz.ntmps3
  go_wp2_with fail
  refine (C9.out _).mono ?_; rintro e w2 ⟨rfl, hb2⟩
  go_wp2
  go_ret
  exact ⟨rfl, hb2⟩
def Hold_ (p : Prop) : Prop := p
theorem hold_ {p : Prop} (h : Hold_ p) : p := h
def okR (Ms : List Ml) : List Ml := Ms.filter fun y => msB (mlM y)
theorem okR_yes {Ms : List Ml} {j : Nat} {x : Ml} (hx : Ms[j]? = some x) (h : msB (mlM x) = true) : okR (Ms.take (j + 1)) = okR (Ms.take j) ++ [x] := by
  unfold okR
  rw [List.take_add_one, hx, List.filter_append]
  simp [h]
theorem okR_no {Ms : List Ml} {j : Nat} {x : Ml} (hx : Ms[j]? = some x) (h : msB (mlM x) = false) : okR (Ms.take (j + 1)) = okR (Ms.take j) := by
  unfold okR
  rw [List.take_add_one, hx, List.filter_append]
  simp [h]
/-- Are all messages light? -/
def lightL (Ms : List Ml) : Prop := ∀ y ∈ Ms, lgM (mlM y) = true
theorem lightL_step {Ms : List Ml} {j : Nat} {x : Ml} (h : lightL (Ms.take j)) (hx : Ms[j]? = some x) (hl : lgM (mlM x) = true) : lightL (Ms.take (j + 1)) := by
  intro y hy
  rw [List.take_add_one, hx] at hy
  rcases List.mem_append.1 hy with hy | hy
  · exact h y hy
  · simp at hy
    subst hy
    exact hl
theorem lgM_ok {x : Ml} (h : lgM (mlM x) = true) : MlOk x ∧ x.es.length ≤ 30 ∧ x.marks.length ≤ 100 := by
  unfold lgM lgA at h
  simp only [Bool.and_eq_true, decide_eq_true_eq] at h
  obtain ⟨h1, h2, h3⟩ := h
  have h1' : x.marks.length ≤ 100 := h1
  have h2' : x.es.length ≤ 30 := by have : (eds x.es).length ≤ 30 := h2; simpa [eds] using this
  refine ⟨⟨fun y hy => ?_, by omega, by omega⟩, h2', h1'⟩
  exact lgE_short (List.all_eq_true.1 h3 y.e (List.mem_map_of_mem hy))
theorem mP_len {x : Ml} (h : lgM (mlM x) = true) (hq : msB (mlM x) = true) : (mP x).length ≤ 124000 := by
  obtain ⟨ok, h1, h2⟩ := lgM_ok h
  have mok := ms_ok hq
  have h0 := mok.kind; have h3 := mok.frm; have h4 := mok.dst
  have a1 := vput_le (x := (mlM x).kind.toNat) (by omega)
  have a2 := vput_le (x := (mlM x).frm.toNat) (by omega)
  have a3 := vput_le (x := (mlM x).dst.toNat) (by omega)
  have a4 := nP_len (mlM x).marks (by show x.marks.length ≤ _; omega)
  have a4' : (mlM x).marks.length ≤ 100 := h2
  have a5' : (mlM x).evs.length ≤ 30 := by show (eds x.es).length ≤ 30; simpa [eds] using h1
  have a5 := vput_le (x := (mlM x).evs.length) (by omega)
  have a6 := evsP_len mok.evs
  unfold mP msP
  simp only [List.length_append]
  omega
theorem fcat_okR {Ms : List Ml} (h : lightL Ms) : (fcat ((okR Ms).map mP)).length ≤ 124014 * Ms.length := by
  induction Ms with
  | nil => simp [okR, fcat]
  | cons x r ih =>
    have ih' := ih (fun y hy => h y (List.mem_cons_of_mem _ hy))
    have hx := h x (List.mem_cons_self ..)
    cases hq : msB (mlM x) with
    | false =>
      have e : okR (x :: r) = okR r := by simp [okR, hq]
      rw [e, List.length_cons]
      omega
    | true =>
      have e : okR (x :: r) = x :: okR r := by simp [okR, hq]
      have h1 := mP_len hx hq
      have h2 := frm_len (l := mP x) (by omega)
      rw [e, List.map_cons, fcat_cons, List.length_append, List.length_cons]
      omega
theorem MlAt.up_drew {w : World} {x : Ml} (h : MlAt w w.heap.size x) : MlAt w.drew w.drew.heap.size x := ⟨h.mks, ⟨h.es.rd, h.es.ov⟩⟩
theorem ok_same {x y : Ml} (he : mlM x = mlM y) (hq : msB (mlM y) = true) (h1 : y.marks.length ≤ 1000) (h2 : y.es.length ≤ 64) : MlOk x := by
  have mok := ms_ok hq
  rw [← he] at mok
  have e1 : x.marks = y.marks := congrArg Md.marks he
  have e2 : eds x.es = eds y.es := congrArg Md.evs he
  have e3 : x.es.length = y.es.length := by have := congrArg List.length e2; simpa [eds] using this
  exact ⟨fun z hz => ev_short (mok.evs z.e (List.mem_map_of_mem hz)), by rw [e1]; exact h1, by omega⟩
theorem okR_mem {Ms : List Ml} {y : Ml} (h : y ∈ okR Ms) : y ∈ Ms ∧ msB (mlM y) = true := by
  unfold okR at h
  exact List.mem_filter.1 h
set_option maxHeartbeats 16000000 in
theorem topWire_near (w : World) (A : Option Addr) (c : Nat) (Ms : List Ml) (cut : Int) (h : MsgsAt w w.heap.size A Ms) (hin : ∀ y ∈ Ms, MlIn w y) (hn : Ms.length ≤ 8) (k1 : -9223372036854775808 ≤ cut) (k2 : cut ≤ 9223372036854775807) :
    Calls Tryz.prog 3 #[.slice A Ms.length c, .int .i64 cut] w fun e w' => e = .returned (.bool true) ∧ Below w.heap.size w w' := by
  have C9 := Lib.hid awake35_any
  have HIN := Lib.hid hin
  have T0 := TW.start w
  have HMs := Lib.hid h
  have CL := Lib.hid (fun (x : Ml) (hx : MlIn w x) (W : World) (hb : Below w.heap.size w W) => light35_any x W (hx.at_.up hb) (by have := hx.l3; have := hx.l4; unfold maxLen at *; omega))
  generalize hlen : Ms.length = n at *
  have t8 : decide ((8 : Int) < (n : Int)) = false := decide_eq_false (by omega)
  have t8n : decide (8 < n) = false := decide_eq_false (by omega)
  have HLn := Lib.hid hlen
  have hN0 := Lib.hid (show w.heap.size = w.heap.size from rfl)
  clear hlen hin h
  have HT0 := Lib.hid T0
  clear T0
  go_enter Tryz.func3, Tryz.ntmps3
  go_wp2_with fail
  go_loopw [5, 6, 7, 8] (fun x y z i wr => ∃ (j : Nat) (Aa : Option Addr) (ca : Nat) (Ar : Option Addr) (cr : Nat) (Ae : Option Addr) (ce : Nat), j ≤ n ∧ i = .int .i64 j ∧ x = .slice Aa (fcat ((okR (Ms.take j)).map mP)).length ca ∧ y = .slice Ar (okR (Ms.take j)).length cr ∧ z = .slice Ae ((okR (Ms.take j)).length + 1) ce ∧ lightL (Ms.take j) ∧ TW w w.heap.size wr Aa ca Ar cr Ae ce (okR (Ms.take j))) (fun _ _ _ i _ => n - (intOf i).toNat)
  case atStart => exact ⟨0, some ⟨w.heap.size, 0, none⟩, 0, some ⟨w.heap.size + 1, 0, none⟩, 0, some ⟨w.heap.size + 1 + 1, 0, none⟩, 1, by omega, rfl, rfl, rfl, rfl, by intro y hy; simp at hy, HT0.out⟩
  case round =>
    obtain ⟨j, Aa, ca, Ar, cr, Ae, ce, hj, rfl, rfl, rfl, rfl, hl, hT⟩ := hrel
    have HT := Lib.hid (And.intro hl hT)
    have hNr := hT.sz
    clear hl hT HT0
    by_cases hlt : j < n
    · obtain ⟨x, hx⟩ : ∃ x, Ms[j]? = some x := ⟨Ms[j]'(by have := HLn.out; omega), List.getElem?_eq_getElem _⟩
      have hxi := HIN.out x (List.mem_of_getElem? hx)
      obtain ⟨b0, o0, hA, hbN, hrg, hat⟩ := (HMs.out.below HT.out.2.bel).get_ hx
      subst hA
      have HXj := Lib.hid hx
      have CLx0 := CL.out x hxi
      have HRG := Lib.hid (And.intro hrg hxi)
      clear hx hrg hat hxi
      cases hlg : lgM (mlM x) with
      | false =>
        rw [hlg] at CLx0
        have CLx := Lib.hid CLx0
        clear CLx0 hlg
        go_wp2_with (refine ld_range (by rfl) _ rfl rfl HRG.out.1 Tryz.underlying30 rfl (by kernel_rfl) ?_)
        refine (CLx.out _ HT.out.2.bel).mono ?_; rintro r w5 ⟨rfl, b5⟩
        have B5 := Lib.hid (HT.out.2.bel.trans (below_of_le b5 hNr))
        clear b5
        go_wp2_with fail
        refine (C9.out _).mono ?_; rintro r w6 ⟨rfl, b6⟩
        have B6 := Lib.hid (B5.out.trans (below_of_le b6 B5.out.size))
        clear b6
        go_wp2
        go_ret
        exact ⟨rfl, B6.out⟩
      | true =>
        rw [hlg] at CLx0
        have CLx := Lib.hid CLx0
        have HLG := Lib.hid hlg
        clear CLx0 hlg
        go_wp2_with (refine ld_range (by rfl) _ rfl rfl HRG.out.1 Tryz.underlying30 rfl (by kernel_rfl) ?_)
        refine (CLx.out _ HT.out.2.bel).mono ?_; rintro r w5 ⟨rfl, b5⟩
        have T5 := Lib.hid (HT.out.2.below b5)
        have HL5 := Lib.hid HT.out.1
        have R5 := Lib.hid (range_below HRG.out.1 b5 (by omega))
        have HXI := Lib.hid HRG.out.2
        have hN5 := T5.out.sz
        clear b5 HRG HT
        cases hq : msB (mlM x) with
        | false =>
          have CB := Lib.hid (msgbytes_no x w5 (HXI.out.at_.up T5.out.bel) (lgM_ok HLG.out).1 hq)
          have CR0 := fun (W : World) (hb : Below w.heap.size w W) => rmright_any x W (HXI.out.at_.up hb) (lgM_ok HLG.out).1
          rw [hq] at CR0
          have CR := Lib.hid CR0
          have HOK := Lib.hid (okR_no HXj.out hq)
          have HLS := Lib.hid (lightL_step HL5.out HXj.out HLG.out)
          clear CR0 hq
          go_wp2_with (refine ld_range (by rfl) _ rfl rfl R5.out Tryz.underlying30 rfl (by kernel_rfl) ?_)
          refine CB.out.mono ?_; rintro r w6 ⟨rfl, b6⟩
          have T6 := Lib.hid (T5.out.below b6)
          have R6 := Lib.hid (range_below R5.out b6 (by omega))
          have hN6 := T6.out.sz
          clear b6 T5 R5
          go_wp2_with (refine ld_range (by rfl) _ rfl rfl R6.out Tryz.underlying30 rfl (by kernel_rfl) ?_)
          refine (CR.out _ T6.out.bel).mono ?_; rintro r w7 ⟨rfl, b7⟩
          have T7 := Lib.hid (T6.out.below b7)
          clear b7 T6 R6
          go_wp2
          go_roundw
          case rel => exact ⟨j + 1, Aa, ca, Ar, cr, Ae, ce, by omega, by go_num, by rw [HOK.out], by rw [HOK.out], by rw [HOK.out], HLS.out, by rw [HOK.out]; exact T7.out⟩
          case measure => simp [intOf]; omega
        | true =>
          have CB := Lib.hid (show Calls Tryz.prog 7 #[.agg (mlC x)] w5 (BytE w5 (Go.Proofs.YtpakmeegldgjmaaGreat.frm (mP x))) from msgbytes_any x w5 (HXI.out.at_.up T5.out.bel) (lgM_ok HLG.out).1 (by have := (lgM_ok HLG.out).2.1; omega) hq)
          have CR0 := fun (W : World) (hb : Below w.heap.size w W) => rmright_any x W (HXI.out.at_.up hb) (lgM_ok HLG.out).1
          rw [hq] at CR0
          have CR := Lib.hid CR0
          have HOK := Lib.hid (okR_yes HXj.out hq)
          have HLS := Lib.hid (lightL_step HL5.out HXj.out HLG.out)
          have HM1 := Lib.hid (fcat_okR HL5.out)
          have HM2 := Lib.hid (mP_len HLG.out hq)
          have HM3 := Lib.hid (frm_len (l := mP x) (by have := HM2.out; omega))
          have hRl : (okR (Ms.take j)).length ≤ 8 := by
            have h1 : (okR (Ms.take j)).length ≤ (Ms.take j).length := List.length_filter_le _ _
            rw [List.length_take] at h1
            omega
          have HM1 := Lib.hid (show (fcat ((okR (Ms.take j)).map mP)).length ≤ 1000000 by
            have h1 := HM1.out
            rw [List.length_take] at h1
            have := HLn.out
            have h2 : min j Ms.length ≤ 8 := by omega
            omega)
          clear CR0 hq
          go_wp2_with (refine ld_range (by rfl) _ rfl rfl R5.out Tryz.underlying30 rfl (by kernel_rfl) ?_)
          refine CB.out.mono ?_; rintro r w6 ⟨A6, c6, rfl, o6, b6⟩
          have T6 := Lib.hid (T5.out.below b6)
          have R6 := Lib.hid (range_below R5.out b6 (by omega))
          have hN6 := T6.out.sz
          have O6 := Lib.hid o6
          clear b6 T5 R5 o6 CB
          go_wp2_with (refine ld_range (by rfl) _ rfl rfl R6.out Tryz.underlying30 rfl (by kernel_rfl) ?_)
          refine (CR.out _ T6.out.bel).mono ?_; rintro r w7 ⟨rfl, b7⟩
          have T7 := Lib.hid (T6.out.below b7)
          have R7 := Lib.hid (range_below R6.out b7 (by omega))
          have o7 := O6.out.below b7 (Nat.le_refl _)
          have hN7 := T7.out.sz
          clear b7 T6 R6 O6 CR hN5 hN6
          obtain ⟨A1, c1, wa, q1, o1, bb1, kk1, _⟩ := appB w7 w.heap.size Aa ca (fcat ((okR (Ms.take j)).map mP)) T7.out.al w7.heap.size A6 c6 (Go.Proofs.YtpakmeegldgjmaaGreat.frm (mP x)) o7.rd (by have := HM1.out; have := HM2.out; have := HM3.out; omega) hN7
          have hNa : w.heap.size ≤ wa.heap.size := Nat.le_trans hN7 kk1.size
          obtain ⟨A2, c2, wb, q2, o2, kk2, bb2⟩ := app1m wa w.heap.size Ar (okR (Ms.take j)).length cr ((okR (Ms.take j)).flatMap mlL) (T7.out.ri.ch kk1 (fun q _ _ hq e => T7.out.ri.apart T7.out.al (by decide) q hq e.symm)) x (by omega) hNa
          have hNb : w.heap.size ≤ wb.heap.size := Nat.le_trans hNa kk2.size
          have hri1 := T7.out.ri.ch kk1 (fun q _ _ hq e => T7.out.ri.apart T7.out.al (by decide) q hq e.symm)
          have hen1 := T7.out.en.ch kk1 (fun q _ _ hq e => T7.out.en.apart T7.out.al (by decide) q hq e.symm)
          obtain ⟨A3, c3, wc, q3, o3, kk3, bb3⟩ := app1i wb w.heap.size Ae ((okR (Ms.take j)).length + 1) ce (endsV ((okR (Ms.take j)).map mP)) (hen1.ch kk2 (fun q _ _ hq e => hen1.apart hri1 (by decide) q hq e.symm)) ((fcat ((okR (Ms.take j)).map mP) ++ Go.Proofs.YtpakmeegldgjmaaGreat.frm (mP x)).length : Int) (by omega) hNb
          have T8 := Lib.hid (T7.out.step o1 kk1 bb1 o2 kk2 bb2 o3 kk3 bb3)
          have R8 := Lib.hid (range_below R7.out bb1 (by omega))
          rw [← HOK.out] at T8
          have HNL := Lib.hid (show (fcat ((okR (Ms.take (j + 1))).map mP)).length = (fcat ((okR (Ms.take j)).map mP) ++ Go.Proofs.YtpakmeegldgjmaaGreat.frm (mP x)).length by rw [HOK.out]; simp [fcat])
          have HRL := Lib.hid (show (okR (Ms.take (j + 1))).length = (okR (Ms.take j)).length + 1 by rw [HOK.out]; simp)
          clear o1 kk1 bb1 o2 kk2 bb2 o3 kk3 bb3 hri1 hen1 T7 R7 o7 hN7 hNa hNb HOK HM1 HM2 HM3
          generalize (fcat ((okR (Ms.take j)).map mP) ++ Go.Proofs.YtpakmeegldgjmaaGreat.frm (mP x)).length = NL at *
          generalize (Go.Proofs.YtpakmeegldgjmaaGreat.frm (mP x)).length = NF at *
          generalize (fcat ((okR (Ms.take j)).map mP)).length = NO at *
          generalize (okR (Ms.take j)).length = NR at *
          have Q := Lib.hid (And.intro q1 (And.intro q2 q3))
          clear q1 q2 q3
          have tok1 : True := trivial
          have tok2 : True := trivial
          have tok3 : True := trivial
          go_wp2_with (first | (at_builtin; clear tok1; refine wpList_want (by rfl) (fun K hK => wp_append_runs _ _ _ _ _ rfl _ _ rfl rfl _ _ Q.out.1 (hK _ _ ?_))) | (refine ld_range (by rfl) _ rfl rfl R8.out Tryz.underlying30 rfl (by kernel_rfl) ?_; refine hold_ ?_))
          unfold Hold_
          refine wpl_bslice (by rfl) (.tmp 66) rfl (.agg (mlC x)) rfl _ _ (bs_ms x _) ?_
          refine wpList_want (by rfl) (fun K hK => wp_append_runs _ _ _ _ _ rfl _ _ rfl rfl _ _ Q.out.2.1 (hK _ _ ?_))
          go_wp2_with (at_builtin; clear tok3; refine wpList_want (by rfl) (fun K hK => wp_append_runs _ _ _ _ _ rfl _ _ rfl rfl _ _ Q.out.2.2 (hK _ _ ?_)))
          go_roundw
          case rel => exact ⟨j + 1, A1, c1, A2, c2, A3, c3, by omega, by go_num, by rw [HNL.out], by rw [HRL.out], by rw [HRL.out], HLS.out, T8.out⟩
          case measure => simp [intOf]; omega
    · have hj' : n = j := by omega
      subst hj'
      have htk : Ms.take n = Ms := List.take_of_length_le (by have := HLn.out; omega)
      rw [htk] at HT
      rw [htk]
      have HLT := Lib.hid HT.out.1
      have HFL := Lib.hid (show (fcat ((okR Ms).map mP)).length ≤ 1000000 by have h1 := fcat_okR HLT.out; have := HLn.out; omega)
      have HRL := Lib.hid (show (okR Ms).length ≤ 8 by
        have h1 : (okR Ms).length ≤ Ms.length := List.length_filter_le _ _
        have := HLn.out
        omega)
      have HRM := Lib.hid (show ∀ y ∈ okR Ms, MlIn w y ∧ msB (mlM y) = true ∧ lgM (mlM y) = true from fun y hy => ⟨HIN.out y (okR_mem hy).1, (okR_mem hy).2, HLT.out y (okR_mem hy).1⟩)
      have HT2 := Lib.hid HT.out.2
      clear htk HT HLT CL HIN HMs
      generalize okR Ms = R at *
      have HLL := Lib.hid (show ∀ l ∈ R.map mP, l.length ≤ 1048576 from fun l hl => by
        obtain ⟨y, hy, rfl⟩ := List.mem_map.1 hl
        have := mP_len (HRM.out y hy).2.2 (HRM.out y hy).2.1
        omega)
      have HML := Lib.hid (show (R.map mP).length = R.length by simp)
      generalize hm : R.length = m at *
      have HRm := Lib.hid hm
      have hm8 : m ≤ 8 := HRL.out
      generalize hLL : R.map mP = L at *
      have HLe := Lib.hid hLL
      generalize hF : (fcat L).length = NF at *
      have HNF := Lib.hid hF
      have hNF : NF ≤ 1000000 := HFL.out
      clear hm hLL hF
      go_wp2_with fail
      obtain ⟨K, hK, hKN⟩ : ∃ K : Nat, min (max cut 0) (NF : Int) = (K : Int) ∧ K ≤ NF := ⟨(min (max cut 0) (NF : Int)).toNat, by omega, by omega⟩
      rw [hK]
      clear hK k1 k2
      have hLm : L.length = m := HML.out
      have HLm := Lib.hid hLm
      have HEN := Lib.hid (show Own wr w.heap.size 3 1 Ae (m + 1) ce (endsV L) from by have h := HT2.out.en; rw [HRm.out, HLe.out] at h; exact h)
      have HAL := Lib.hid (show Own wr w.heap.size 5 1 Aa NF ca (bv (fcat L)) from by have h := HT2.out.al; rw [HLe.out, HNF.out] at h; exact h)
      have HRI := Lib.hid (show Own wr w.heap.size 30 5 Ar m cr (R.flatMap mlL) from by have h := HT2.out.ri; rw [HRm.out] at h; exact h)
      clear hLm
      go_loop [12, 13] (fun x y => ∃ i W : Nat, i ≤ m + 1 ∧ y = .int .i64 i ∧ x = .int .i64 W ∧ W ≤ m ∧ (fcat (L.take W)).length ≤ K ∧ (∀ q, q < i → W < q → K < (fcat (L.take q)).length)) (fun _ y => m + 1 - (intOf y).toNat)
      case atStart => exact ⟨0, 0, by omega, rfl, rfl, by omega, by simp [fcat], fun q hq => absurd hq (by omega)⟩
      case round =>
        obtain ⟨i, W, hi, rfl, rfl, hWm, hWK, hWq⟩ := hrel
        have HW := Lib.hid (And.intro hWK hWq)
        clear hWK hWq
        by_cases hlt2 : i < m + 1
        · obtain ⟨be, oe, ue, hAe, hbe, hue, hce⟩ := HEN.out.rd.at_ hlt2
          rw [endsV_get L (by have := HLm.out; omega)] at hue
          injection hue with hue
          subst hue
          subst hAe
          by_cases hle : (fcat (L.take i)).length ≤ K
          · have HX := Lib.hid (And.intro hle (show ∀ q, q < i + 1 → i < q → K < (fcat (L.take q)).length from fun q h1 h2 => absurd h1 (by omega)))
            generalize hEi : (fcat (L.take i)).length = Ei at *
            have HEi := Lib.hid hEi
            clear hEi
            have t1 : decide ((Ei : Int) ≤ (K : Int)) = true := decide_eq_true (by omega)
            have t2 : decide (Ei ≤ K) = true := decide_eq_true hle
            go_wp2
            go_round
            case rel => exact ⟨i + 1, i, by omega, by go_num, rfl, by omega, by rw [HEi.out]; exact HX.out.1, HX.out.2⟩
            case measure => simp [intOf]; omega
          · have HX := Lib.hid (show ∀ q, q < i + 1 → W < q → K < (fcat (L.take q)).length from fun q h1 h2 => by
              by_cases hqi : q = i
              · subst hqi
                omega
              · exact HW.out.2 q (by omega) h2)
            generalize (fcat (L.take i)).length = Ei at *
            have t1 : decide ((Ei : Int) ≤ (K : Int)) = false := decide_eq_false (by omega)
            have t2 : decide (Ei ≤ K) = false := decide_eq_false hle
            go_wp2
            go_round
            case rel => exact ⟨i + 1, W, by omega, by go_num, rfl, by omega, HW.out.1, HX.out⟩
            case measure => simp [intOf]; omega
        · have hi' : i = m + 1 := by omega
          subst hi'
          have hsc := sc_cut L HLL.out K W (by rw [HNF.out]; exact hKN) (by have := HLm.out; omega) HW.out.1 (fun hW => HW.out.2 (W + 1) (by have := HLm.out; omega) (by omega))
          have hs1 : ∀ w, (sizeOf (Tryz.prog.elem 24)).run Tryz.prog w = .ok 1 w := fun w => by kernel_rfl
          have hto1 := run_to (P := Tryz.prog) 24 (by kernel_rfl) hs1 Aa NF ca K (by have := HAL.out.2.1; omega)
          have C2' := fscan_any Aa K ca ((fcat L).take K) wr (by rw [bv_take]; exact HAL.out.rd.front hKN) (by omega) (by have := HAL.out.2.1; omega) HAL.out.2.2
          rw [hsc] at C2'
          unfold ScE at C2'
          simp only at C2'
          have hlW : (L.take W).length = W := by rw [List.length_take]; have := HLm.out; omega
          rw [hlW] at C2'
          have C2 := Lib.hid C2'
          clear hsc hs1 C2' hlW
          go_wp2_with fail
          refine C2.out.mono ?_; rintro r w3 ⟨A3, c3, u3, rfl, o3, ob3, b3⟩
          have HW0 := Lib.hid (show W < m + 1 by omega)
          have HEN3 := Lib.hid ((HEN.out.below b3 (Nat.le_refl _)))
          obtain ⟨be, oe, ue, hAe, hbe, hue, hce⟩ := HEN3.out.rd.at_ HW0.out
          rw [endsV_get L (by have := HLm.out; omega)] at hue
          injection hue with hue
          subst hue
          subst hAe
          have HRI3 := Lib.hid (HRI.out.below b3 (Nat.le_refl _))
          have B3 := Lib.hid (HT2.out.bel.trans (below_of_le b3 HT2.out.sz))
          have O3 := Lib.hid (And.intro o3 ob3)
          have HMs3 := Lib.hid (show ∀ y ∈ R, MlAt w3 w3.heap.size y from fun y hy => (HRM.out y hy).1.at_.up B3.out)
          have hs3 := b3.size
          have hW8 : W ≤ 8 := by omega
          clear o3 ob3 b3 C2 HEN HRI HAL HT2 HW hto1
          generalize hEW : (fcat (L.take W)).length = EW at *
          have tE : ((EW : Int) != (EW : Int)) = false := by simp
          have tW : ((W : Int) != (W : Int)) = false := by simp
          clear hEW
          go_wp2_with fail
          have HB3 := Lib.hid (show w.heap.size ≤ w3.heap.size from B3.out.size)
          have hRIb : ∀ (q : Nat) (y : Ml), R[q]? = some y → ∃ b o, Ar = some ⟨b, o, none⟩ ∧ b < w3.heap.size ∧ w3.rangeAt b (o + q * 5) (mlC y).toList := fun q y hy => by
            have h := HRI3.out.rd
            rw [← HRm.out] at h
            exact rd_range (by omega) mlL_len h hy
          have HRB := Lib.hid hRIb
          clear hRIb HRI3 hce HEN3
          go_loopw [16] (fun x wr => ∃ i : Nat, i ≤ W ∧ x = .int .i64 i ∧ Below w3.heap.size w3 wr) (fun x _ => W - (intOf x).toNat)
          case atStart => exact ⟨0, by omega, rfl, Below.refl _ _⟩
          case round =>
            obtain ⟨i, hi, rfl, hb⟩ := hrel
            have HB := Lib.hid hb
            have hbs := hb.size
            clear hb
            by_cases hlt3 : i < W
            · obtain ⟨y, hy⟩ : ∃ y, R[i]? = some y := ⟨R[i]'(by have := HRm.out; omega), List.getElem?_eq_getElem _⟩
              have hly : (L.take W)[i]? = some (mP y) := by
                rw [List.getElem?_take, if_pos hlt3, ← HLe.out, List.getElem?_map, hy]
                rfl
              obtain ⟨hyI, hyq, hyl⟩ := HRM.out y (List.mem_of_getElem? hy)
              obtain ⟨b4, o4, uu, hA3, hb4, huu, hcc⟩ := O3.out.1.rd.at_ hlt3
              obtain ⟨Au, cu, rfl, hou⟩ := O3.out.2.2 i uu (mP y) huu hly
              subst hA3
              have hcu : wr.cell? ⟨b4, o4 + i, none⟩ = some (.slice Au (mP y).length cu) := (HB.out.cell (by exact hb4)).trans hcc
              obtain ⟨br, orr, hAr, hbr, hrr⟩ := HRB.out i y hy
              subst hAr
              have hml := mP_len hyl hyq
              have hfl := frm_len (l := mP y) (by omega)
              obtain ⟨hok, h30, h100⟩ := lgM_ok hyl
              have CF := Lib.hid (fput_any none Au 0 (mP y).length 0 cu [] (mP y) wr Rd.nil_ ((hou.rd.below HB.out).more HB.out.size) (by omega) (by omega))
              have CP := Lib.hid (fun (A : Option Addr) (c B : Nat) (W : World) (ho : Own W B 5 1 A (Go.Proofs.YtpakmeegldgjmaaGreat.frm (mP y)).length c (bv (Go.Proofs.YtpakmeegldgjmaaGreat.frm (mP y)))) => show Calls Tryz.prog 11 #[.slice A (Go.Proofs.YtpakmeegldgjmaaGreat.frm (mP y)).length c] W (ParE W (mlM y)) from parse_bytes (mlM y) hyq (by show y.marks.length ≤ 1000; omega) (by show (eds y.es).length ≤ 64; simp [eds]; omega) A c B W ho (by show (Go.Proofs.YtpakmeegldgjmaaGreat.frm (mP y)).length ≤ 1000000; omega))
              have HYM := Lib.hid (HMs3.out y (List.mem_of_getElem? hy))
              have HYQ := Lib.hid (And.intro hyq (And.intro h100 h30))
              have HRR := Lib.hid hrr
              clear hy hly hyI hyq hyl hou huu hcc hml hfl hok h30 h100 hrr
              unfold NewBytes2 at CF
              rw [List.nil_append] at CF
              generalize hFl : (Go.Proofs.YtpakmeegldgjmaaGreat.frm (mP y)).length = FL at *
              generalize (mP y).length = ML at *
              clear hFl
              go_wp2_with fail
              refine CF.out.mono ?_; rintro r w5 ⟨A5, c5, rfl, o5, b5⟩
              have CP5 := Lib.hid (CP.out A5 c5 _ w5 o5)
              have B5 := Lib.hid (HB.out.trans (below_of_le b5 HB.out.size))
              clear o5 b5 CF CP
              go_wp2_with fail
              refine CP5.out.mono ?_; rintro r w6 ⟨xx, rfl, hxm, hxA, b6⟩
              have B6 := Lib.hid (B5.out.trans (below_of_le b6 B5.out.size))
              have HXA := Lib.hid hxA
              have HXM := Lib.hid hxm
              have hZ := Whole.new w6 30 zeroM
              have HZ := Lib.hid hZ
              unfold zeroM at HZ
              clear b6 hxA hxm hZ CP5 B5
              go_wp2_with (refine st_whole (by rfl) _ _ rfl rfl rfl HZ.out (by rfl) (by kernel_rfl) (by rfl) ?_; intro W7 hX7 hC7 hz7; have H7 := Lib.hid (And.intro hX7 (And.intro hC7 hz7)); clear hX7 hC7 hz7)
              have hb7 : Below w6.heap.size w6 W7 := ((Below.refl _ w6).alloc (Nat.le_refl _) _).trans (H7.out.2.1.below (fun k hk e => by omega) (by simp))
              have B7 := Lib.hid (B6.out.trans (below_of_le hb7 B6.out.size))
              have CS := Lib.hid (rsame35_eq xx y W7.drew (HXA.out.up hb7).up_drew (HYM.out.up B7.out).up_drew HXM.out (ok_same HXM.out HYQ.out.1 (by have := HYQ.out.2.1; omega) (by have := HYQ.out.2.2; omega)))
              have r1 := H7.out.1.range
              have r2 := range_below HRR.out B7.out hbr
              have hl6 : w6.heap.size < W7.heap.size := H7.out.1.lt
              have hbr7 : br < W7.heap.size := by have := B7.out.size; omega
              have HR := Lib.hid (And.intro r1 r2)
              have him : i < m := by omega
              clear H7 HZ r1 r2 hb7 HXA B6 HRR HYM
              generalize w6.heap.size = X6 at *
              refine wp_region_held_drew (S := (fun W => W.rangeAt X6 0 (mlC xx).toList ∧ W.rangeAt br (orr + i * 5) (mlC y).toList)) (by kernel_rfl) ?_ (fun hHeld => ?_)
              · (try dsimp only); exact HR.out
              refine wpAnyH_take (i := 0) (v := ?_) rfl (by kernel_rfl) (by kernel_rfl) (by kernel_rfl) (fun _ _ _ h => h) (Or.inl ⟨by rfl, ?_⟩) (by assumption) ?_
              rotate_left
              first | (focus ((intro w hSw; (try dsimp only at hSw); go_simp); (try with_reducible rfl); done)) | fail
              try simp only [Act.put, List.getElem_toArray, List.getElem_cons_zero, List.setIfInBounds_toArray, List.set_cons_zero, List.set_cons_succ]
              refine wpAnyH_take (i := 1) (v := ?_) rfl (by kernel_rfl) (by kernel_rfl) (by kernel_rfl) (fun _ _ _ h => h) (Or.inl ⟨by rfl, ?_⟩) (by assumption) ?_
              rotate_left
              first | (focus ((intro w hSw; (try dsimp only at hSw); go_simp); (try with_reducible rfl); done)) | fail
              try simp only [Act.put, List.getElem_toArray, List.getElem_cons_zero, List.getElem_cons_succ, List.setIfInBounds_toArray, List.set_cons_zero, List.set_cons_succ]
              refine wpAnyH_take (i := 2) (v := ?_) rfl (by kernel_rfl) (by kernel_rfl) (by kernel_rfl) (fun _ _ _ h => h) (Or.inl ⟨by rfl, ?_⟩) (by assumption) ?_
              rotate_left
              first | (focus ((intro w hSw; (try dsimp only at hSw); go_simp); (try with_reducible rfl); done)) | fail
              try simp only [Act.put, List.getElem_toArray, List.getElem_cons_zero, List.getElem_cons_succ, List.setIfInBounds_toArray, List.set_cons_zero, List.set_cons_succ]
              refine wpAnyH_take (i := 3) (v := ?_) rfl (by kernel_rfl) (by kernel_rfl) (by kernel_rfl) (fun _ _ _ h => h) (Or.inl ⟨by rfl, ?_⟩) (by assumption) ?_
              rotate_left
              first | (focus ((intro w hSw; (try dsimp only at hSw); go_simp); (try with_reducible rfl); done)) | fail
              try simp only [Act.put, List.getElem_toArray, List.getElem_cons_zero, List.getElem_cons_succ, List.setIfInBounds_toArray, List.set_cons_zero, List.set_cons_succ]
              refine wpAnyH_take (i := 4) (v := ?_) rfl (by kernel_rfl) (by kernel_rfl) (by kernel_rfl) (fun _ _ _ h => h) (Or.inl ⟨by rfl, ?_⟩) (by assumption) ?_
              rotate_left
              first | (focus ((intro w hSw; (try dsimp only at hSw); go_simp); (try with_reducible rfl); done)) | fail
              try simp only [Act.put, List.getElem_toArray, List.getElem_cons_zero, List.getElem_cons_succ, List.setIfInBounds_toArray, List.set_cons_zero, List.set_cons_succ]
              refine wpAnyH_take (i := 5) (v := ?_) rfl (by kernel_rfl) (by kernel_rfl) (by kernel_rfl) (fun _ _ _ h => h) (Or.inl ⟨by rfl, ?_⟩) (by assumption) ?_
              rotate_left
              first | (focus ((intro w hSw; (try dsimp only at hSw); go_simp); (try with_reducible rfl); done)) | fail
              try simp only [Act.put, List.getElem_toArray, List.getElem_cons_zero, List.getElem_cons_succ, List.setIfInBounds_toArray, List.set_cons_zero, List.set_cons_succ]
              refine wpAnyH_take (i := 6) (v := ?_) rfl (by kernel_rfl) (by kernel_rfl) (by kernel_rfl) (fun _ _ _ h => h) (Or.inl ⟨by rfl, ?_⟩) (by assumption) ?_
              rotate_left
              first | (focus ((intro w hSw; (try dsimp only at hSw); go_simp); (try with_reducible rfl); done)) | fail
              try simp only [Act.put, List.getElem_toArray, List.getElem_cons_zero, List.getElem_cons_succ, List.setIfInBounds_toArray, List.set_cons_zero, List.set_cons_succ]
              refine wpAnyH_take (i := 7) rfl (by kernel_rfl) (by kernel_rfl) (by kernel_rfl) (fun _ _ _ h => h) (take_range (by rfl) _ rfl rfl (fun W h => h.1) Tryz.underlying30 rfl (by kernel_rfl)) (by assumption) ?_
              try simp only [Act.put, List.getElem_toArray, List.getElem_cons_zero, List.getElem_cons_succ, List.setIfInBounds_toArray, List.set_cons_zero, List.set_cons_succ]
              refine wpAnyH_take (i := 8) (v := ?_) rfl (by kernel_rfl) (by kernel_rfl) (by kernel_rfl) (fun _ _ _ h => h) (Or.inl ⟨by rfl, ?_⟩) (by assumption) ?_
              rotate_left
              first | (focus ((intro w hSw; (try dsimp only at hSw); go_simp); (try with_reducible rfl); done)) | fail
              try simp only [Act.put, List.getElem_toArray, List.getElem_cons_zero, List.getElem_cons_succ, List.setIfInBounds_toArray, List.set_cons_zero, List.set_cons_succ]
              refine wpAnyH_take (i := 9) (v := ?_) rfl (by kernel_rfl) (by kernel_rfl) (by kernel_rfl) (fun _ _ _ h => h) (Or.inl ⟨by rfl, ?_⟩) (by assumption) ?_
              rotate_left
              first | (focus ((intro w hSw; (try dsimp only at hSw); go_simp); (try with_reducible rfl); done)) | fail
              try simp only [Act.put, List.getElem_toArray, List.getElem_cons_zero, List.getElem_cons_succ, List.setIfInBounds_toArray, List.set_cons_zero, List.set_cons_succ]
              refine wpAnyH_take (i := 10) (v := ?_) rfl (by kernel_rfl) (by kernel_rfl) (by kernel_rfl) (fun _ _ _ h => h) (Or.inl ⟨by rfl, ?_⟩) (by assumption) ?_
              rotate_left
              first | (focus ((intro w hSw; (try dsimp only at hSw); go_simp); (try with_reducible rfl); done)) | fail
              try simp only [Act.put, List.getElem_toArray, List.getElem_cons_zero, List.getElem_cons_succ, List.setIfInBounds_toArray, List.set_cons_zero, List.set_cons_succ]
              refine wpAnyH_take (i := 11) rfl (by kernel_rfl) (by kernel_rfl) (by kernel_rfl) (fun _ _ _ h => h) (take_range (by rfl) _ rfl rfl (fun W h => h.2) Tryz.underlying30 rfl (by kernel_rfl)) (by assumption) ?_
              try simp only [Act.put, List.getElem_toArray, List.getElem_cons_zero, List.getElem_cons_succ, List.setIfInBounds_toArray, List.set_cons_zero, List.set_cons_succ]
              refine wpAnyH_ready (rs := [12]) (by kernel_rfl) (by simp) ?_
              refine AllReadyH.cons rfl (fun K hK => ?_) AllReadyH.nil
              go_simp
              refine CS.out.mono ?_; rintro r w8 ⟨rfl, b8⟩
              go_wp2_with fail
              refine hK.out _ _ ?_ (fun hHeld => ?_)
              · (try dsimp only); exact ⟨range_below hHeld.1 b8 hl6, range_below hHeld.2 b8 hbr7⟩
              clear hK K
              try simp only [Act.put, List.getElem_toArray, List.getElem_cons_zero, List.getElem_cons_succ, List.setIfInBounds_toArray, List.set_cons_zero, List.set_cons_succ]
              have B8 := Lib.hid (B7.out.drew.trans (below_of_le b8 B7.out.size))
              clear b8
              refine wpAnyH_take (i := 13) (v := ?_) rfl (by kernel_rfl) (by kernel_rfl) (by kernel_rfl) (fun _ _ _ h => h) (Or.inl ⟨by rfl, ?_⟩) (by assumption) ?_
              rotate_left
              first | (focus ((intro w hSw; (try dsimp only at hSw); go_simp); (try with_reducible rfl); done)) | fail
              try simp only [Act.put, List.getElem_toArray, List.getElem_cons_zero, List.getElem_cons_succ, List.setIfInBounds_toArray, List.set_cons_zero, List.set_cons_succ]
              refine wpAnyH_take (i := 14) (v := ?_) rfl (by kernel_rfl) (by kernel_rfl) (by kernel_rfl) (fun _ _ _ h => h) (Or.inl ⟨by rfl, ?_⟩) (by assumption) ?_
              rotate_left
              first | (focus ((intro w hSw; (try dsimp only at hSw); go_simp); (try with_reducible rfl); done)) | fail
              try simp only [Act.put, List.getElem_toArray, List.getElem_cons_zero, List.getElem_cons_succ, List.setIfInBounds_toArray, List.set_cons_zero, List.set_cons_succ]
              refine wpAnyH_done (by kernel_rfl) ?_ _
              go_wp2
              go_roundw
              case rel => exact ⟨i + 1, by omega, by go_num, B8.out⟩
              case measure => simp [intOf]; omega
            · have hi' : i = W := by omega
              subst hi'
              go_wp2_with fail
              refine (C9.out _).mono ?_; rintro r w9 ⟨rfl, b9⟩
              have B9 := Lib.hid (B3.out.trans (below_of_le (HB.out.trans (below_of_le b9 HB.out.size)) HB3.out))
              clear b9
              go_wp2
              go_ret
              exact ⟨rfl, B9.out⟩
theorem topWire_law (w : World) {v : Value} {k : Int} (hv : IsMsgs w v) (wk : (Lit.int .i64 k).wf = true) :
    Calls Tryz.prog 3 #[v, .int .i64 k] w fun e w' => e = .returned (.bool true) ∧ Below w.heap.size w w' := by
  obtain ⟨A, c, Ms, rfl, _, _, h3, h4⟩ := hv
  by_cases h8 : 8 < Ms.length
  · exact topWire_far w A _ c k h8
  · exact topWire_near w A c Ms k h3 h4 (by omega) (bounds_i64 wk).1 (bounds_i64 wk).2
end Go.Proofs.YtpakmeegldgjmaaGreat
