/- Layer 17 (vector): the walk of the law VectorOf where the marks may be, and the law. -/
import Derived.Test.YtailbppddnegoaaZ20
namespace Go.Proofs.Ytailbppddnegoaa
open Go.RowKit
set_option linter.unusedVariables false
set_option maxRecDepth 100000
attribute [local go_sem ↓] Go.wp_at_zero Go.wp_at_succ

set_option maxHeartbeats 8000000 in
theorem vectorOf_yes (w : World) (Al : Option Addr) (cl : Nat) (L : List Dt) (hr : MsAt w Al L) (hn : L.length ≤ 100) (hc : chkE L = 0) :
    Calls Try.prog 15 #[.slice Al L.length cl] w fun e w' => e = .returned (.bool true) ∧ Below w.heap.size w w' := by
  have hv := (chkE_vw hc).1
  have C9 := Lib.hid awake17_any
  have CO := Lib.hid ((vcof_any w Al cl L hr (by omega)).mono (fun e w' h => show ∃ v b, e = .returned (.tuple #[.pointer (some ⟨v, 0, none⟩), .int .i64 0]) ∧ w.heap.size ≤ v ∧ w.heap.size ≤ b ∧ VecIs w' v b L ∧ Below w.heap.size w w' from by
    unfold OfEnd at h
    rw [if_pos hc] at h
    exact h))
  have hltA := fun k (hk : bl Al = some k) (hne : L ≠ []) => (show k < w.heap.size from by
    obtain ⟨x, hx⟩ : ∃ x, L[0]? = some x := ⟨L[0]'(List.length_pos_iff.2 hne), List.getElem?_eq_getElem _⟩
    obtain ⟨b0, o0, hA, hb0, _⟩ := Ds.at_ (show Ds w w.heap.size Al L from hr) hx
    subst hA
    simp [bl] at hk
    omega)
  have CP := Lib.hid (fun W q (h : Wr W q q none 0 []) (hq : q ≤ W.heap.size) (hwq : w.heap.size ≤ q) (hM : MsAt W Al L) => vcput_any W q q none 0 [] Al cl L h hq (by simp) hM (fun k hk hne => ⟨by have := hltA k hk hne; omega, by simp [bl]⟩) (by omega) hc)
  rw [List.nil_append] at CP
  have hlP : (nP L).length ≤ 10000 := by have := nP_len L (by omega); omega
  have CB := Lib.hid (fun (W : World) (q : Nat) (A : Option Addr) (c : Nat) (h : Wr W q q A c (nP L)) => wbytes_any W q q A c (nP L) h (by omega))
  have CG := Lib.hid (fun W (h : MsAt W Al L) => rcheck17_any W Al cl L h (by omega))
  have CK := Lib.hid (fun W (h : MsAt W Al L) => vccheck_any W Al cl L h (by omega))
  rw [hc] at CG CK
  have CR := Lib.hid (fun W A c (h : Rd W W.heap.size 1 A (nP L).length (bv (nP L))) (h1 : (nP L).length ≤ c) (h2 : c ≤ maxLen) => read_any W A (nP L).length c (nP L) h h1 h2)
  have CT := Lib.hid (fun W b A n c (h : Re W b A n c (nP L) 0) => vcget_put W b A n c L [] (by rw [List.append_nil]; exact h) hv (by omega))
  have CM := Lib.hid (fun W v b (h : VecIs W v b L) => vcmarks_any W _ L h.at_)
  have CS := Lib.hid (fun (W : World) (A A' : Option Addr) (c c' : Nat) (hr : MsAt W A L) (hr' : MsAt W A' L) => rsame17_any W W.heap.size W.heap.size A A' c c' L L hr hr' (Nat.le_refl _) (Nat.le_refl _) (by omega))
  simp only [decide_true] at CS
  have CU := Lib.hid (fun W (h : MsAt W Al L) => rput17_any W Al cl L h hv.2 (by omega))
  have CZ := Lib.hid (fun (W : World) (A A' : Option Addr) (c c' : Nat) (h1 : Rd W W.heap.size 1 A (nP L).length (bv (nP L))) (h2 : Rd W W.heap.size 1 A' (nP L).length (bv (nP L))) => same_any (nP L) A A' (nP L).length (nP L).length c c' W.heap.size W (by omega) h1 h2 (Nat.le_refl _))
  have CD := Lib.hid (fun W b A n c (h : Re W b A n c [] 0) => rend_any W b A n c [] 0 h)
  rw [show endR [] 0 = 0 by decide] at CD
  have HR := Lib.hid hr
  generalize nP L = PP at *
  generalize hpl : PP.length = pl at *
  generalize hln : L.length = n at *
  have HLn := Lib.hid hln
  clear hln
  have g1 : (decide (100 < (n : Int)) && decide ((n : Int) ≤ 4096) || decide (5000 < (n : Int))) = false := by simp; omega
  have h5 : ¬ 5000 < n := by omega
  clear hr hc hv hltA
  generalize hN : w.heap.size = N at *
  go_enter Try.func15, Try.ntmps15
  go_wp2_with fail
  refine (CO.out).mono ?_; rintro e w1 ⟨v, b, rfl, hv1, hb1, hvec, b1⟩
  have H1 := Lib.hid (And.intro (HR.out.up (by rw [hN]; exact b1)) (And.intro b1 hvec))
  have hz1 : N ≤ w1.heap.size := by have := b1.size; omega
  have hq := wr_newV w1 w1.heap.size (Nat.le_refl _)
  have hbq : Below w1.heap.size w1 (w1.alloc (.cells #[.slice none 0 0] 80)) := (Below.refl _ _).alloc (Nat.le_refl _) _
  have H2 := Lib.hid (And.intro hq (And.intro (H1.out.1.up hbq) (And.intro (H1.out.2.1.trans (below_of_le hbq hz1)) (And.intro hbq (show w1.heap.size < (w1.alloc (.cells #[.slice none 0 0] 80)).heap.size by simp)))))
  clear hq hbq hvec b1
  go_wp2_with fail
  generalize (w1.alloc (.cells #[.slice none 0 0] 80)) = W2 at *
  generalize hq1 : w1.heap.size = q1 at *
  refine (CP.out _ q1 H2.out.1 (by have := H2.out.2.2.2.2; omega) hz1 H2.out.2.1).mono ?_; rintro e w3 ⟨A3, c3, rfl, hw3, st3⟩
  have hb3 : Below q1 W2 w3 := st3.1.below (fun k hk e => by rcases e with e | e; (subst e; omega); cases e) (by have := H2.out.2.2.2.2; omega)
  have hb3' := H2.out.2.2.2.1.trans hb3
  have H3 := Lib.hid (And.intro hw3 (And.intro (H1.out.1.up (show Below w1.heap.size w1 w3 by rw [hq1]; exact hb3')) (And.intro (H1.out.2.1.trans (below_of_le hb3' hz1)) (H1.out.2.2.up (show Below w1.heap.size w1 w3 by rw [hq1]; exact hb3')))))
  have hz3 : N ≤ w3.heap.size := by have := H3.out.2.2.1.size; omega
  clear hw3 st3 hb3 hb3' H2 H1 CP
  go_wp2_with fail
  refine (CB.out _ _ _ _ H3.out.1).mono ?_; rintro e w4 ⟨A4, c4, he, o4, b4⟩
  rw [hpl] at he
  subst he
  have H4 := Lib.hid (And.intro (show Rd w4 w4.heap.size 1 A4 pl (bv PP) by have := o4.rd; rw [hpl] at this; exact this) (And.intro (H3.out.2.1.up b4) (And.intro (H3.out.2.2.1.trans (below_of_le b4 hz3)) (And.intro (H3.out.2.2.2.up b4) (show pl ≤ c4 ∧ c4 ≤ maxLen from ⟨by have := o4.2.1; omega, o4.2.2⟩)))))
  have hz4 : N ≤ w4.heap.size := Nat.le_trans hz3 b4.size
  clear o4 b4 H3 CB
  go_wp2_with fail
  refine (CG.out _ H4.out.2.1).mono ?_; rintro e w5 ⟨rfl, b5⟩
  have H5 := Lib.hid (And.intro ((H4.out.1.below b5).more b5.size) (And.intro (H4.out.2.1.up b5) (And.intro (H4.out.2.2.1.trans (below_of_le b5 hz4)) (And.intro (H4.out.2.2.2.1.up b5) H4.out.2.2.2.2))))
  have hz5 : N ≤ w5.heap.size := Nat.le_trans hz4 b5.size
  clear b5 H4 CG
  go_wp2_with fail
  refine (CR.out _ _ _ H5.out.1 H5.out.2.2.2.2.1 H5.out.2.2.2.2.2).mono ?_; rintro e w6 ⟨rfl, hRe, b6⟩
  have H6 := Lib.hid (And.intro hRe b6)
  clear hRe b6 CR
  go_wp2_with fail
  refine (CT.out _ _ _ _ _ H6.out.1).mono ?_; rintro e w7 ⟨A7, c7, A8, n8, c8, he, hM7, hf7, hR7, ch7⟩
  rw [HLn.out] at he
  subst he
  have b7 := H6.out.2.trans (ch7.below (fun k hk e => by have e' : k = w5.heap.size := e; omega) H6.out.2.size)
  have H7 := Lib.hid (And.intro ((H5.out.1.below b7).more b7.size) (And.intro (H5.out.2.1.up b7) (And.intro (H5.out.2.2.1.trans (below_of_le b7 hz5)) (And.intro (H5.out.2.2.2.1.up b7) (And.intro hM7 hR7)))))
  have hz7 : N ≤ w7.heap.size := Nat.le_trans hz5 b7.size
  clear hM7 hf7 hR7 ch7 b7 H6 H5 CT
  go_wp2_with fail
  refine (CK.out _ H7.out.2.1).mono ?_; rintro e w8 ⟨rfl, b8⟩
  have H8 := Lib.hid (And.intro ((H7.out.1.below b8).more b8.size) (And.intro (H7.out.2.1.up b8) (And.intro (H7.out.2.2.1.trans (below_of_le b8 hz7)) (And.intro (H7.out.2.2.2.1.up b8) (And.intro (H7.out.2.2.2.2.1.up b8) (H7.out.2.2.2.2.2.far b8 H7.out.2.2.2.2.2.1.lt))))))
  have hz8 : N ≤ w8.heap.size := Nat.le_trans hz7 b8.size
  clear b8 H7 CK
  go_wp2_with fail
  refine (CM.out _ _ _ H8.out.2.2.2.1).mono ?_; rintro e w9 ⟨A9, c9, he, o9, b9⟩
  rw [HLn.out] at he
  subst he
  have H9 := Lib.hid (And.intro ((H8.out.1.below b9).more b9.size) (And.intro (H8.out.2.1.up b9) (And.intro (H8.out.2.2.1.trans (below_of_le b9 hz8)) (And.intro (MsAt.own o9) (And.intro (H8.out.2.2.2.2.1.up b9) (H8.out.2.2.2.2.2.far b9 H8.out.2.2.2.2.2.1.lt))))))
  have hz9 : N ≤ w9.heap.size := Nat.le_trans hz8 b9.size
  clear o9 b9 H8 CM
  go_wp2_with fail
  refine (CS.out _ _ _ _ _ H9.out.2.2.2.1 (H9.out.2.1)).mono ?_; rintro e wa ⟨rfl, ba⟩
  have HA := Lib.hid (And.intro ((H9.out.1.below ba).more ba.size) (And.intro (H9.out.2.1.up ba) (And.intro (H9.out.2.2.1.trans (below_of_le ba hz9)) (And.intro (H9.out.2.2.2.2.1.up ba) (H9.out.2.2.2.2.2.far ba H9.out.2.2.2.2.2.1.lt)))))
  have hza : N ≤ wa.heap.size := Nat.le_trans hz9 ba.size
  clear ba H9
  go_wp2_with fail
  refine (CU.out _ HA.out.2.1).mono ?_; rintro e wb ⟨Ab, cb, he, ob, bb⟩
  rw [hpl] at he
  subst he
  have HB := Lib.hid (And.intro ((HA.out.1.below bb).more bb.size) (And.intro (HA.out.2.1.up bb) (And.intro (HA.out.2.2.1.trans (below_of_le bb hza)) (And.intro (HA.out.2.2.2.1.up bb) (And.intro (HA.out.2.2.2.2.far bb HA.out.2.2.2.2.1.lt) (show Rd wb wb.heap.size 1 Ab pl (bv PP) by have := ob.rd; rw [hpl] at this; exact this))))))
  have hzb : N ≤ wb.heap.size := Nat.le_trans hza bb.size
  clear ob bb HA CU
  go_wp2_with fail
  refine (CZ.out _ _ _ _ _ HB.out.1 HB.out.2.2.2.2.2).mono ?_; rintro e wc ⟨rfl, bc⟩
  have HC := Lib.hid (And.intro (HB.out.2.1.up bc) (And.intro (HB.out.2.2.1.trans (below_of_le bc hzb)) (And.intro (HB.out.2.2.2.1.up bc) (HB.out.2.2.2.2.1.far bc HB.out.2.2.2.2.1.1.lt))))
  have hzc : N ≤ wc.heap.size := Nat.le_trans hzb bc.size
  clear bc HB CZ
  go_wp2_with fail
  refine (CD.out _ _ _ _ _ HC.out.2.2.2).mono ?_; rintro e wd ⟨rfl, rfl⟩
  go_wp2_with fail
  refine (CS.out _ _ _ _ _ HC.out.2.2.1 HC.out.1).mono ?_; rintro e we ⟨rfl, be⟩
  have HE := Lib.hid (HC.out.2.1.trans (below_of_le be hzc))
  have hze : N ≤ we.heap.size := Nat.le_trans hzc be.size
  clear be HC CS
  go_wp2_with fail
  refine (C9.out _).mono ?_; rintro e wf ⟨rfl, bf⟩
  have HF := Lib.hid (HE.out.trans (below_of_le bf hze))
  clear bf HE
  go_wp2
  go_ret
  exact ⟨rfl, HF.out⟩
theorem vectorOf_law (w : World) {vl : Value} (hl : IsRecs 3 w vl) :
    Calls Try.prog 15 #[vl] w fun e w' => e = .returned (.bool true) ∧ Below w.heap.size w w' := by
  obtain ⟨Al, cl, L, rfl, hlc, hcm, hrl, hokl⟩ := recs_list hl
  have hmx : maxLen ≤ 9223372036854775807 := by decide
  by_cases hg : 100 < L.length ∧ L.length ≤ 4096 ∨ 5000 < L.length
  · have C9 := Lib.hid awake17_any
    have hn : L.length ≤ 9223372036854775807 := by omega
    generalize L.length = n at *
    clear hrl hokl hl hmx hcm hlc
    by_cases h5 : 5000 < n
    · have h1 : 100 < n := by omega
      have h2 : ¬ n ≤ 4096 := by omega
      clear hg
      go_enter Try.func15, Try.ntmps15
      go_wp2_with fail
      refine (C9.out _).mono ?_; rintro e w2 ⟨rfl, b2⟩
      go_wp2
      go_ret
      exact ⟨rfl, b2⟩
    · have h1 : 100 < n := by omega
      have h2 : n ≤ 4096 := by omega
      clear hg
      go_enter Try.func15, Try.ntmps15
      go_wp2_with fail
      refine (C9.out _).mono ?_; rintro e w2 ⟨rfl, b2⟩
      go_wp2
      go_ret
      exact ⟨rfl, b2⟩
  · by_cases hc : chkE L = 0
    · exact vectorOf_yes w Al cl L hrl (by have := (chkE_vw hc).2; omega) hc
    · exact vectorOf_no w Al cl L hrl (by omega) (eq_false hg) hc
end Go.Proofs.Ytailbppddnegoaa
