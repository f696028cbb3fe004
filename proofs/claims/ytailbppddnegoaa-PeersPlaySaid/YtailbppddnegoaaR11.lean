/- Layer 36 (peers): the document's table: Known, Others, Stable, Even. -/
import Derived.Test.YtailbppddnegoaaR10
namespace Go.Proofs.Ytailbppddnegoaa
open Go.RowKit Go.Shelf
set_option linter.unusedVariables false
set_option maxRecDepth 100000
attribute [local go_sem ↓] Go.wp_at_zero Go.wp_at_succ

/-- A table handed in by value, boxed. -/
theorem rbox (w : World) (own : Int) (A : Option Addr) (n c : Nat) : Whole (w.alloc (.cells #[.int .i64 own, .slice A n c] 89)) w.heap.size 89 #[.int .i64 own, .slice A n c] ∧ Below w.heap.size w (w.alloc (.cells #[.int .i64 own, .slice A n c] 89)) := ⟨Whole.new _ _ _, below_alloc_book _ _⟩
theorem rknown36_any (w : World) (own : Int) (A : Option Addr) (c : Nat) (Rs : List Rn) (n : Nat) (hRn : Rs.length = n) (h : RTab w A Rs) (d : Int) :
    Calls Try.prog 64 #[.agg #[.int .i64 own, .slice A n c], .int .i64 d] w (SomeMs w (knownL own (rtK Rs) d)) := by
  have CO := Lib.hid (fun W => rother36_any W own A n c d)
  have HT := Lib.hid h
  have H0 := Lib.hid (rbox w own A n c)
  clear h
  generalize hN : w.heap.size = N at *
  go_enter Try.func64, Try.ntmps64
  go_wp2_with fail
  generalize (w.alloc (.cells #[.int .i64 own, .slice A n c] 89)) = W0 at *
  refine (CO.out _).mono ?_; rintro e w1 ⟨rfl, b1⟩
  have hz0 : N < W0.heap.size := H0.out.1.lt
  have H1 := Lib.hid (And.intro (H0.out.1.below b1 hz0) (H0.out.2.trans (below_of_le b1 (by omega))))
  have t1 := H1.out.1.cell 1
  change _ = some (Value.slice A n c) at t1
  clear b1 H0
  by_cases ho : othB own n d = true
  · have hk : knownL own (rtK Rs) d = (rtK Rs)[d.toNat]?.getD [] := by unfold knownL; rw [rtK_len, hRn, if_pos ho]
    obtain ⟨h0, h1, h2⟩ := othB_iff.1 ho
    obtain ⟨i, rfl⟩ := Int.eq_ofNat_of_zero_le h0
    have hi : i < Rs.length := by omega
    obtain ⟨x, hx⟩ : ∃ x, Rs[i]? = some x := ⟨Rs[i]'hi, List.getElem?_eq_getElem _⟩
    rw [Int.toNat_natCast, rtK_get hx] at hk
    have HK := Lib.hid hk
    rw [ho]
    have h1' := HT.out.up (hN ▸ H1.out.2 : Below w.heap.size w w1)
    obtain ⟨b0, o0, hA, hb0, c0, hm⟩ := h1'.at_ hx
    have HM := Lib.hid hm
    clear hk hx ho h1' hm
    subst hA
    go_wp2
    go_ret
    exact ⟨x.A, x.c, by rw [HK.out]; rfl, by rw [HK.out]; exact HM.out, hN.symm ▸ H1.out.2⟩
  · have hk : knownL own (rtK Rs) d = [] := by unfold knownL; rw [rtK_len, hRn, if_neg ho]
    rw [Bool.not_eq_true] at ho
    rw [ho]
    have HK := Lib.hid hk
    clear hk ho
    go_wp2
    go_ret
    exact ⟨none, 0, by rw [HK.out]; rfl, by rw [HK.out]; exact MsAt.nil _, hN.symm ▸ H1.out.2⟩
theorem rothers36_any (w : World) (own : Int) (A : Option Addr) (c n : Nat) (hn64 : n ≤ 64) :
    Calls Try.prog 66 #[.agg #[.int .i64 own, .slice A n c]] w (NewIs w (othersTo own n)) := by
  have H0 := Lib.hid (rbox w own A n c)
  generalize hN : w.heap.size = N at *
  have hz0 : N < (w.alloc (.cells #[.int .i64 own, .slice A n c] 89)).heap.size := H0.out.1.lt
  go_enter Try.func66, Try.ntmps66
  go_wp2_with fail
  have oe := own_e1 (w.alloc (.cells #[.int .i64 own, .slice A n c] 89)) 3 N (by omega)
  have hz1 : (w.alloc (.cells #[.int .i64 own, .slice A n c] 89)).heap.size = N + 1 := by simp [hN]
  rw [hz1] at oe
  have H1 := Lib.hid (And.intro (H0.out.1.alloc (.cells #[] 3)) (And.intro oe (H0.out.2.alloc (by omega) (.cells #[] 3))))
  clear oe hz1 hz0 H0
  generalize ((w.alloc (.cells #[.int .i64 own, .slice A n c] 89)).alloc (.cells #[] 3)) = W1 at *
  go_loopw [3, 4] (fun y i wr => ∃ (j : Nat) (A3 : Option Addr) (c3 : Nat), j ≤ n ∧ i = .int .i64 j ∧ y = .slice A3 (othersTo own j).length c3 ∧ Whole wr N 89 #[.int .i64 own, .slice A n c] ∧ Own wr N 3 1 A3 (othersTo own j).length c3 (iv (othersTo own j)) ∧ Below N w wr) (fun _ i _ => n - (intOf i).toNat)
  case atStart => exact ⟨0, some ⟨N + 1, 0, none⟩, 0, by omega, rfl, rfl, H1.out.1, H1.out.2.1, H1.out.2.2⟩
  case round =>
    obtain ⟨j, A3, c3, hj, rfl, rfl, hW, hO, hb⟩ := hrel
    have HI := Lib.hid (And.intro hW (And.intro hO hb))
    have t0 := hW.cell 0
    have t1 := hW.cell 1
    change _ = some (Value.int .i64 own) at t0
    change _ = some (Value.slice A n c) at t1
    have hNr : N < wr.heap.size := hW.lt
    clear hW hO hb H1
    by_cases hlt : j < n
    · by_cases ho : (j : Int) = own
      · have e : othersTo own (j + 1) = othersTo own j := by rw [othersTo_succ, if_pos ho, List.append_nil]
        have HE := Lib.hid e
        have hz : ((j : Int) != own) = false := by simp [ho]
        have HS := Lib.hid (show ∃ (A4 : Option Addr) (c4 : Nat), (Value.slice A3 (othersTo own j).length c3) = .slice A4 (othersTo own (j + 1)).length c4 ∧ Own wr N 3 1 A4 (othersTo own (j + 1)).length c4 (iv (othersTo own (j + 1))) from ⟨A3, c3, by rw [e], by rw [e]; exact HI.out.2.1⟩)
        clear e ho
        go_wp2
        go_roundw
        case rel =>
          obtain ⟨A4, c4, h1, h2⟩ := HS.out
          exact ⟨j + 1, A4, c4, by omega, by go_num, h1, HI.out.1, h2, HI.out.2.2⟩
        case measure => simp [intOf]; omega
      · have e : othersTo own (j + 1) = othersTo own j ++ [(j : Int)] := by rw [othersTo_succ, if_neg ho]
        have hz : ((j : Int) != own) = true := by simp [ho]
        have hlo := othersTo_len own j
        obtain ⟨A4, c4, w4, q4, o4, g4, b4⟩ := appI wr N A3 (othersTo own j).length c3 (iv (othersTo own j)) HI.out.2.1 (j : Int) (by omega) (by omega)
        have hbA : bl A3 ≠ some N := fun e' => (HI.out.2.1.ne_ HI.out.1 (by decide)) (by rw [ownBlock_bl]; exact e')
        have HF := Lib.hid (show Whole w4 N 89 #[.int .i64 own, .slice A n c] ∧ Own w4 N 3 1 A4 (othersTo own (j + 1)).length c4 (iv (othersTo own (j + 1))) ∧ Below N w w4 ∧ (othersTo own (j + 1)).length = (othersTo own j).length + 1 from by
          refine ⟨(HI.out.1.alloc _).grown g4 hbA, ?_, HI.out.2.2.trans b4, by rw [e]; simp⟩
          rw [e]
          unfold iv at o4 ⊢
          rw [List.map_append, List.length_append]
          exact o4)
        have Q4 := Lib.hid q4
        clear q4 o4 g4 b4 e ho
        generalize (othersTo own j).length = ol at *
        go_wp2_with (at_builtin; refine wpList_want (by rfl) (fun K hK => wp_append_runs _ _ _ _ _ rfl _ _ rfl rfl _ _ Q4.out (hK _ _ ?_)))
        go_roundw
        case rel => exact ⟨j + 1, A4, c4, by omega, by go_num, by rw [HF.out.2.2.2], HF.out.1, HF.out.2.1, HF.out.2.2.1⟩
        case measure => simp [intOf]; omega
    · have hj' : j = n := by omega
      subst hj'
      have HF := Lib.hid (show NewIs w (othersTo own j) (.returned (.slice A3 (othersTo own j).length c3)) wr from ⟨A3, c3, rfl, by rw [hN]; exact HI.out.2.1, by rw [hN]; exact HI.out.2.2⟩)
      go_wp2
      go_ret
      exact HF.out
theorem stab_len {own : Int} {K : List (List Dt)} {v : List Dt} (d : Nat) : (stabTo own K v d).length ≤ v.length := by
  induction d with
  | zero => exact Nat.le_refl _
  | succ d ih =>
    unfold stabTo
    split
    · exact ih
    · exact Nat.le_trans (by unfold rmeet; exact List.length_filterMap_le _ _) ih
theorem rstable36_any (w : World) (own : Int) (A : Option Addr) (c : Nat) (Rs : List Rn) (n : Nat) (hRn : Rs.length = n) (h : RTab w A Rs) (hn64 : n ≤ 64) (hv : KVw (rtK Rs)) (Al : Option Addr) (cl : Nat) (L : List Dt) (hr : MsAt w Al L) (hn : L.length ≤ 100000000) :
    Calls Try.prog 67 #[.agg #[.int .i64 own, .slice A n c], .slice Al L.length cl] w (SomeMs w (stabL own (rtK Rs) L (chkE L))) := by
  have CK := Lib.hid (fun W (h : MsAt W Al L) => rcheck17_any W Al cl L h (by omega))
  have CM := Lib.hid (fun (W : World) (A A' : Option Addr) (c c' : Nat) (L O : List Dt) (hr : MsAt W A L) (ho : MsAt W A' O) (hn : L.length ≤ 100000000) (hno : O.length ≤ 9223372036854775807) => rmeet17_any W A A' c c' L O hr ho hn hno)
  have HT := Lib.hid h
  have HR := Lib.hid hr
  have H0 := Lib.hid (rbox w own A n c)
  have HKV := Lib.hid hv
  clear h hr hv
  generalize hN : w.heap.size = N at *
  by_cases hc : chkE L = 0
  · rw [show stabL own (rtK Rs) L (chkE L) = stabTo own (rtK Rs) L n by unfold stabL; rw [if_pos hc, rtK_len, hRn]]
    rw [hc] at CK
    have HLn := Lib.hid hn
    have hl0 : ∃ l0, L.length = l0 := ⟨_, rfl⟩
    obtain ⟨l0, hl0⟩ := hl0
    have HL0 := Lib.hid hl0
    rw [hl0]
    rw [hl0] at CK
    clear hl0 hn hc
    go_enter Try.func67, Try.ntmps67
    go_wp2_with fail
    generalize (w.alloc (.cells #[.int .i64 own, .slice A n c] 89)) = W0 at *
    refine (CK.out _ (HR.out.up (hN ▸ H0.out.2))).mono ?_; rintro e w1 ⟨rfl, b1⟩
    have hz0 : N < W0.heap.size := H0.out.1.lt
    have H1 := Lib.hid (And.intro (H0.out.1.below b1 hz0) (H0.out.2.trans (below_of_le b1 (by omega))))
    clear b1 H0
    go_wp2_with fail
    go_loopw [1, 5] (fun y i wr => ∃ (j : Nat) (A3 : Option Addr) (c3 : Nat), j ≤ n ∧ i = .int .i64 j ∧ y = .slice A3 (stabTo own (rtK Rs) L j).length c3 ∧ Whole wr N 89 #[.int .i64 own, .slice A n c] ∧ MsAt wr A3 (stabTo own (rtK Rs) L j) ∧ Below N w wr) (fun _ i _ => n - (intOf i).toNat)
    case atStart => exact ⟨0, Al, cl, by omega, rfl, by rw [← HL0.out]; rfl, H1.out.1, HR.out.up (hN ▸ H1.out.2), H1.out.2⟩
    case round =>
      obtain ⟨j, A3, c3, hj, rfl, rfl, hW, hM, hb⟩ := hrel
      have HI := Lib.hid (And.intro hW (And.intro hM hb))
      have t0 := hW.cell 0
      have t1 := hW.cell 1
      change _ = some (Value.int .i64 own) at t0
      change _ = some (Value.slice A n c) at t1
      have hNr : N < wr.heap.size := hW.lt
      clear hW hM hb H1
      by_cases hlt : j < n
      · obtain ⟨x, hx⟩ : ∃ x, Rs[j]? = some x := ⟨Rs[j]'(by omega), List.getElem?_eq_getElem _⟩
        obtain ⟨b0, o0, hA, hb0, c0, hm⟩ := (HT.out.up (hN ▸ HI.out.2.2 : Below w.heap.size w wr)).at_ hx
        by_cases ho : (j : Int) = own
        · have e : stabTo own (rtK Rs) L (j + 1) = stabTo own (rtK Rs) L j := by rw [stabTo, if_pos ho]
          have hz : ((j : Int) != own) = false := by simp [ho]
          have HS := Lib.hid (show ∃ (A4 : Option Addr) (c4 : Nat), (Value.slice A3 (stabTo own (rtK Rs) L j).length c3) = .slice A4 (stabTo own (rtK Rs) L (j + 1)).length c4 ∧ MsAt wr A4 (stabTo own (rtK Rs) L (j + 1)) from ⟨A3, c3, by rw [e], by rw [e]; exact HI.out.2.1⟩)
          clear e ho hx hm hA
          go_wp2
          go_roundw
          case rel =>
            obtain ⟨A4, c4, h1, h2⟩ := HS.out
            exact ⟨j + 1, A4, c4, by omega, by go_num, h1, HI.out.1, h2, HI.out.2.2⟩
          case measure => simp [intOf]; omega
        · have e : stabTo own (rtK Rs) L (j + 1) = rmeet (stabTo own (rtK Rs) L j) x.M := by rw [stabTo, if_neg ho, rtK_get hx]
          have hz : ((j : Int) != own) = true := by simp [ho]
          have hsl := stab_len (own := own) (K := rtK Rs) (v := L) j
          have hxl := (HKV.out x.M (List.mem_map.2 ⟨x, List.mem_of_getElem? hx, rfl⟩)).len
          have CX := Lib.hid (CM.out wr A3 x.A c3 x.c (stabTo own (rtK Rs) L j) x.M HI.out.2.1 hm (by have := HLn.out; omega) (by omega))
          have HE := Lib.hid e
          clear e ho hx hm hsl
          generalize (stabTo own (rtK Rs) L j).length = sl at *
          generalize x.M.length = xl at *
          subst hA
          go_wp2_with fail
          refine CX.out.mono ?_; rintro e w2 ⟨A4, c4, rfl, o4, b4⟩
          have HF := Lib.hid (And.intro (HI.out.1.below b4 hNr) (And.intro (MsAt.own o4) (HI.out.2.2.trans (below_of_le b4 (by omega)))))
          clear o4 b4 CX
          go_wp2
          go_roundw
          case rel => exact ⟨j + 1, A4, c4, by omega, by go_num, by rw [HE.out], HF.out.1, by rw [HE.out]; exact HF.out.2.1, HF.out.2.2⟩
          case measure => simp [intOf]; omega
      · have hj' : j = n := by omega
        subst hj'
        have HF := Lib.hid (show SomeMs w (stabTo own (rtK Rs) L j) (.returned (.slice A3 (stabTo own (rtK Rs) L j).length c3)) wr from ⟨A3, c3, rfl, HI.out.2.1, by rw [hN]; exact HI.out.2.2⟩)
        go_wp2
        go_ret
        exact HF.out
  · rw [show stabL own (rtK Rs) L (chkE L) = [] by unfold stabL; rw [if_neg hc]]
    have hz : (chkE L != 0) = true := by simpa using hc
    generalize chkE L = r at *
    generalize L.length = nl at *
    go_enter Try.func67, Try.ntmps67
    go_wp2_with fail
    generalize (w.alloc (.cells #[.int .i64 own, .slice A n c] 89)) = W0 at *
    refine (CK.out _ (HR.out.up (hN ▸ H0.out.2))).mono ?_; rintro e w1 ⟨rfl, b1⟩
    have hz0 : N < W0.heap.size := H0.out.1.lt
    have B1 := Lib.hid (H0.out.2.trans (below_of_le b1 (by omega)))
    clear b1 H0
    go_wp2
    go_ret
    exact ⟨none, 0, rfl, MsAt.nil _, hN.symm ▸ B1.out⟩
theorem reven36_any (w : World) (own : Int) (A : Option Addr) (c : Nat) (Rs : List Rn) (n : Nat) (hRn : Rs.length = n) (h : RTab w A Rs) (hn64 : n ≤ 64) (hv : KVw (rtK Rs)) (Al : Option Addr) (cl : Nat) (L : List Dt) (hr : MsAt w Al L) (hn : L.length ≤ 100000000) :
    Calls Try.prog 69 #[.agg #[.int .i64 own, .slice A n c], .slice Al L.length cl] w fun e w' => e = .returned (.bool (decide (chkE L = 0) && evenTo own (rtK Rs) L n)) ∧ Below w.heap.size w w' := by
  have CK := Lib.hid (fun W (h : MsAt W Al L) => rcheck17_any W Al cl L h (by omega))
  have CM := Lib.hid (fun (W : World) (A A' : Option Addr) (c c' : Nat) (L M : List Dt) (hr : MsAt W A L) (hr' : MsAt W A' M) (hn : L.length ≤ 9223372036854775807) => rsame17_any W W.heap.size W.heap.size A A' c c' L M hr hr' (Nat.le_refl _) (Nat.le_refl _) hn)
  have HT := Lib.hid h
  have HR := Lib.hid hr
  have H0 := Lib.hid (rbox w own A n c)
  have HKV := Lib.hid hv
  clear h hr hv
  generalize hN : w.heap.size = N at *
  by_cases hc : chkE L = 0
  · rw [hc] at CK
    rw [decide_eq_true hc, Bool.true_and]
    have HLn := Lib.hid hn
    clear hn hc
    have hl0 : ∃ l0, L.length = l0 := ⟨_, rfl⟩
    obtain ⟨l0, hl0⟩ := hl0
    have HL0 := Lib.hid hl0
    rw [hl0]
    rw [hl0] at CK
    clear hl0
    go_enter Try.func69, Try.ntmps69
    go_wp2_with fail
    generalize (w.alloc (.cells #[.int .i64 own, .slice A n c] 89)) = W0 at *
    refine (CK.out _ (HR.out.up (hN ▸ H0.out.2))).mono ?_; rintro e w1 ⟨rfl, b1⟩
    have hz0 : N < W0.heap.size := H0.out.1.lt
    have H1 := Lib.hid (And.intro (H0.out.1.below b1 hz0) (H0.out.2.trans (below_of_le b1 (by omega))))
    clear b1 H0
    go_wp2_with fail
    go_loopw [5] (fun i wr => ∃ (j : Nat), j ≤ n ∧ i = .int .i64 j ∧ evenTo own (rtK Rs) L j = true ∧ Whole wr N 89 #[.int .i64 own, .slice A n c] ∧ Below N w wr) (fun i _ => n - (intOf i).toNat)
    case atStart => exact ⟨0, by omega, rfl, rfl, H1.out.1, H1.out.2⟩
    case round =>
      obtain ⟨j, hj, rfl, he, hW, hb⟩ := hrel
      have HI := Lib.hid (And.intro he (And.intro hW hb))
      have t0 := hW.cell 0
      have t1 := hW.cell 1
      change _ = some (Value.int .i64 own) at t0
      change _ = some (Value.slice A n c) at t1
      have hNr : N < wr.heap.size := hW.lt
      clear hW hb H1 he
      by_cases hlt : j < n
      · obtain ⟨x, hx⟩ : ∃ x, Rs[j]? = some x := ⟨Rs[j]'(by omega), List.getElem?_eq_getElem _⟩
        obtain ⟨b0, o0, hA, hb0, c0, hm⟩ := (HT.out.up (hN ▸ HI.out.2.2 : Below w.heap.size w wr)).at_ hx
        by_cases ho : (j : Int) = own
        · have HE := Lib.hid (show evenTo own (rtK Rs) L (j + 1) = true by rw [evenTo_succ, HI.out.1, decide_eq_true ho]; rfl)
          have hz : ((j : Int) != own) = false := by simp [ho]
          clear ho hx hm hA
          go_wp2
          go_roundw
          case rel => exact ⟨j + 1, by omega, by go_num, HE.out, HI.out.2.1, HI.out.2.2⟩
          case measure => simp [intOf]; omega
        · have hz : ((j : Int) != own) = true := by simp [ho]
          have hxl := (HKV.out x.M (List.mem_map.2 ⟨x, List.mem_of_getElem? hx, rfl⟩)).len
          have CX := CM.out wr x.A Al x.c cl x.M L hm (HR.out.up (hN ▸ HI.out.2.2)) (by omega)
          rw [HL0.out] at CX
          have hg := rtK_get hx
          by_cases hs : x.M = L
          · rw [decide_eq_true hs] at CX
            have HE := Lib.hid (show evenTo own (rtK Rs) L (j + 1) = true by rw [evenTo_succ, HI.out.1, hg, decide_eq_true hs]; simp)
            have CX' := Lib.hid CX
            clear hs CX hg ho hx hm hxl
            generalize x.M.length = xl at *
            subst hA
            go_wp2_with fail
            refine CX'.out.mono ?_; rintro e w2 ⟨rfl, b2⟩
            have HF := Lib.hid (And.intro (HI.out.2.1.below b2 hNr) (HI.out.2.2.trans (below_of_le b2 (by omega))))
            clear b2 CX'
            go_wp2
            go_roundw
            case rel => exact ⟨j + 1, by omega, by go_num, HE.out, HF.out.1, HF.out.2⟩
            case measure => simp [intOf]; omega
          · rw [decide_eq_false hs] at CX
            have HE := Lib.hid (show evenTo own (rtK Rs) L n = false from evenTo_no hlt ho (by rw [hg]; exact hs))
            have CX' := Lib.hid CX
            clear hs CX hg ho hx hm hxl
            generalize x.M.length = xl at *
            subst hA
            go_wp2_with fail
            refine CX'.out.mono ?_; rintro e w2 ⟨rfl, b2⟩
            have HF := Lib.hid (HI.out.2.2.trans (below_of_le b2 (by omega)))
            clear b2 CX'
            go_wp2
            go_ret
            exact ⟨(by rw [HE.out]; rfl), HF.out⟩
      · have hj' : j = n := by omega
        subst hj'
        go_wp2
        go_ret
        exact ⟨(by rw [HI.out.1]; rfl), HI.out.2.2⟩
  · have hz : (chkE L != 0) = true := by simpa using hc
    rw [decide_eq_false hc, Bool.false_and]
    generalize chkE L = r at *
    generalize L.length = nl at *
    go_enter Try.func69, Try.ntmps69
    go_wp2_with fail
    generalize (w.alloc (.cells #[.int .i64 own, .slice A n c] 89)) = W0 at *
    refine (CK.out _ (HR.out.up (hN ▸ H0.out.2))).mono ?_; rintro e w1 ⟨rfl, b1⟩
    have hz0 : N < W0.heap.size := H0.out.1.lt
    have B1 := Lib.hid (H0.out.2.trans (below_of_le b1 (by omega)))
    clear b1 H0
    go_wp2
    go_ret
    exact ⟨rfl, B1.out⟩
end Go.Proofs.Ytailbppddnegoaa
