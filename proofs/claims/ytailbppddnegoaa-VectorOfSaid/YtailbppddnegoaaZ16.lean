/- Layers 17, 18: the document's Put of marks and of a set. -/
import Derived.Test.YtailbppddnegoaaZ15
namespace Go.Proofs.Ytailbppddnegoaa
open Go.RowKit
set_option linter.unusedVariables false
set_option maxRecDepth 100000
attribute [local go_sem ↓] Go.wp_at_zero Go.wp_at_succ

/-- 'append' on bytes, as a run. -/
theorem appB (w : World) (base : Nat) (A : Option Addr) (c : Nat) (l : List UInt8) (hown : Own w base 5 1 A l.length c (bv l)) (B : Nat) (A' : Option Addr) (c' : Nat) (m : List UInt8) (hr : Rd w B 1 A' m.length (bv m)) (hlen : l.length + m.length ≤ 1000000000) (hbase : base ≤ w.heap.size) :
    ∃ A2 c2 w', (Builtin.append_ #[78, 78] 78 #[.slice A l.length c, .slice A' m.length c']).run Try.prog w = .ok (.slice A2 (l ++ m).length c2) w' ∧ Own w' base 5 1 A2 (l ++ m).length c2 (bv (l ++ m)) ∧ Below base w w' ∧ Ch (fun k => some k = bl A) w w' ∧ ∀ k, bl A2 = some k → bl A = some k ∨ w.heap.size ≤ k := by
  obtain ⟨i0, hi, hz0, hz1, hz2⟩ := info_parts Try.info_by
  obtain ⟨A2, c2, w', q, o, g, nr⟩ := run_append_rdn (P := Try.prog) w 78 78 base 5 i0 (.int .u8 0) 1 1 Try.underlying78 hi hz0 hz1 hz2 rfl (by decide) (by decide) A l.length c (bv l) hown B A' m.length c' (bv m) hr (bv_oneCell _) (by omega) hbase
  rw [← bv_append] at o
  rw [← List.length_append] at q o
  refine ⟨A2, c2, w', q, o, (Below.refl base w).grown g hbase hown.bl_lo, (grown_ch g).mono (fun k _ h => h), fun k hk => ?_⟩
  rcases nr with h | h
  · exact .inl (by rw [← h]; exact hk)
  · rw [h] at hk
    simp at hk
    exact .inr (by omega)
theorem nP_take {L : List Dt} {n j : Nat} {x : Dt} (hx : L[j]? = some x) : (vput n ++ dsP (L.take j)) ++ dP x = vput n ++ dsP (L.take (j + 1)) := by
  rw [dsP_step hx, List.append_assoc]
theorem nP_take_len (L : List Dt) (n j : Nat) (hn : n < 18446744073709551616) : (vput n ++ dsP (L.take j)).length ≤ 10 + 30 * j := by
  have h1 := dsP_len (L.take j)
  have h2 := List.length_take_le j L
  have h3 := vput_le (x := n) hn
  rw [List.length_append]
  omega
set_option maxHeartbeats 2000000 in
theorem rput17_any (w : World) (Am : Option Addr) (cm : Nat) (L : List Dt) (hm : MsAt w Am L) (hr : ∀ x ∈ L, rightD x = true) (hn : L.length ≤ 1000) :
    Calls Try.prog 80 #[.slice Am L.length cm] w (NewB w (nP L)) := by
  have CN := Lib.hid (rnum5_any L.length w (by omega))
  have CD := Lib.hid (fun (x : Dt) (hq : dotB x.1.1 x.1.2 x.2 = true) W => rdput_any x.1.1 x.1.2 x.2 hq W)
  have hnP : nP L = vput L.length ++ dsP L := rfl
  rw [hnP]
  have HM := Lib.hid (And.intro hm hr)
  generalize hlen : L.length = n at *
  have HLn := Lib.hid hlen
  have y1 : IntKind.u64.wrap (n : Int) = (n : Int) := by rw [IntKind.wrap_u64]; omega
  unfold dotV at CD
  generalize hN : w.heap.size = N at *
  clear hm hr hnP hlen
  go_enter Try.func80, Try.ntmps80
  go_wp2_with fail
  refine (CN.out).mono ?_; rintro e w1 ⟨A1, c1, rfl, o1, b1⟩
  rw [hN] at o1 b1
  have H1 := Lib.hid (And.intro o1 b1)
  clear o1 b1 CN
  go_wp2_with fail
  go_loopw [3, 4] (fun y i wr => ∃ (j : Nat) (l3 : List UInt8) (A3 : Option Addr) (c3 : Nat), j ≤ n ∧ i = .int .i64 j ∧ l3 = vput n ++ dsP (L.take j) ∧ y = .slice A3 l3.length c3 ∧ Own wr N 5 1 A3 l3.length c3 (bv l3) ∧ Below N w wr) (fun _ i _ => n - (intOf i).toNat)
  case atStart => exact ⟨0, vput n, A1, c1, by omega, rfl, by simp [dsP], rfl, H1.out.1, H1.out.2⟩
  case round =>
    obtain ⟨j, l3, A3, c3, hj, rfl, hl3, rfl, hO, hb⟩ := hrel
    have HI := Lib.hid (And.intro hO (And.intro hb hl3))
    clear hO hb H1 hl3
    by_cases hlt : j < n
    · obtain ⟨x, hx⟩ : ∃ x, L[j]? = some x := ⟨L[j]'(by have := HLn.out; omega), List.getElem?_eq_getElem _⟩
      obtain ⟨b0, o0, hA, hb0, k0, k1, k2⟩ := (Ds.below (hN ▸ HM.out.1 : Ds w N Am L) HI.out.2.1).at_ hx
      have htk := Lib.hid (show l3 ++ dP x = vput n ++ dsP (L.take (j + 1)) by rw [HI.out.2.2]; exact nP_take hx)
      have hl3 := Lib.hid (show l3.length ≤ 40000 from by
        have := nP_take_len L n j (by omega)
        rw [HI.out.2.2]
        omega)
      have CX := Lib.hid (CD.out x (HM.out.2 x (List.mem_of_getElem? hx)))
      have hdl := Lib.hid (dP_len x)
      obtain ⟨⟨d, i⟩, q⟩ := x
      unfold dP at htk hdl
      simp only at k0 k1 k2 CX htk hdl
      have HK := Lib.hid (And.intro k0 (And.intro k1 k2))
      have hNr : N ≤ wr.heap.size := by have := HI.out.2.1.size; omega
      clear hx k0 k1 k2
      subst hA
      generalize dotP d i q = pb at *
      go_wp2_with fail
      refine wp_region_held_drew (S := (fun W => W.cell? ⟨b0, o0 + j * 3, none⟩ = some (.int .i64 d) ∧ W.cell? ⟨b0, o0 + j * 3 + 1, none⟩ = some (.int .i64 i) ∧ W.cell? ⟨b0, o0 + j * 3 + 2, none⟩ = some (.int .i64 q))) (by kernel_rfl) ?_ (fun hHeld => ?_)
      · (try dsimp only); exact HK.out
      refine wpAnyH_take (i := 0) (v := ?_) rfl (by kernel_rfl) (by kernel_rfl) (by kernel_rfl) (fun _ _ _ h => h) (Or.inl ⟨by rfl, ?_⟩) (by assumption) ?_
      rotate_left
      first | (focus ((intro w hSw; (try dsimp only at hSw); go_simp); (try with_reducible rfl); done)) | fail
      try simp only [Act.put, List.getElem_toArray, List.getElem_cons_zero, List.setIfInBounds_toArray, List.set_cons_zero, List.set_cons_succ]
      refine wpAnyH_take (i := 1) (v := ?_) rfl (by kernel_rfl) (by kernel_rfl) (by kernel_rfl) (fun _ _ _ h => h) (Or.inl ⟨by rfl, ?_⟩) (by assumption) ?_
      rotate_left
      first | (focus ((intro w hSw; (try dsimp only at hSw); go_simp); (try with_reducible rfl); done)) | fail
      try simp only [Act.put, List.getElem_toArray, List.getElem_cons_zero, List.getElem_cons_succ, List.setIfInBounds_toArray, List.set_cons_zero, List.set_cons_succ]
      refine wpAnyH_take (i := 2) (v := ?_) rfl (by kernel_rfl) (by kernel_rfl) (by kernel_rfl) (fun _ _ _ h => h) (Or.inl ⟨by rfl, ?_⟩) (by assumption) ?_
      rotate_left
      first | (focus ((intro w hSw; (try dsimp only at hSw); go_simp); (try with_reducible rfl); done)) | fail
      try simp only [Act.put, List.getElem_toArray, List.getElem_cons_zero, List.getElem_cons_succ, List.setIfInBounds_toArray, List.set_cons_zero, List.set_cons_succ]
      refine wpAnyH_take (i := 3) (v := ?_) rfl (by kernel_rfl) (by kernel_rfl) (by kernel_rfl) (fun _ _ _ h => h) (Or.inl ⟨by rfl, ?_⟩) (by assumption) ?_
      rotate_left
      first | (focus ((intro w hSw; (try dsimp only at hSw); go_simp); (try with_reducible rfl); done)) | fail
      try simp only [Act.put, List.getElem_toArray, List.getElem_cons_zero, List.getElem_cons_succ, List.setIfInBounds_toArray, List.set_cons_zero, List.set_cons_succ]
      refine wpAnyH_take (i := 4) (v := ?_) rfl (by kernel_rfl) (by kernel_rfl) (by kernel_rfl) (fun _ _ _ h => h) (Or.inl ⟨by rfl, ?_⟩) (by assumption) ?_
      rotate_left
      first | (focus ((intro w hSw; (try dsimp only at hSw); go_simp); (try with_reducible rfl); done)) | fail
      try simp only [Act.put, List.getElem_toArray, List.getElem_cons_zero, List.getElem_cons_succ, List.setIfInBounds_toArray, List.set_cons_zero, List.set_cons_succ]
      refine wpAnyH_take (i := 5) (v := ?_) rfl (by kernel_rfl) (by kernel_rfl) (by kernel_rfl) (fun _ _ _ h => h) (Or.inl ⟨by rfl, ?_⟩) (by assumption) ?_
      rotate_left
      first | (focus ((intro w hSw; (try dsimp only at hSw); go_simp); (try with_reducible rfl); done)) | fail
      try simp only [Act.put, List.getElem_toArray, List.getElem_cons_zero, List.getElem_cons_succ, List.setIfInBounds_toArray, List.set_cons_zero, List.set_cons_succ]
      refine wpAnyH_take (i := 6) (v := ?_) rfl (by kernel_rfl) (by kernel_rfl) (by kernel_rfl) (fun _ _ _ h => h) (Or.inl ⟨by rfl, ?_⟩) (by assumption) ?_
      rotate_left
      first | (focus ((intro w hSw; (try dsimp only at hSw); go_simp); (try with_reducible rfl); done)) | fail
      try simp only [Act.put, List.getElem_toArray, List.getElem_cons_zero, List.getElem_cons_succ, List.setIfInBounds_toArray, List.set_cons_zero, List.set_cons_succ]
      refine wpAnyH_take (i := 7) (v := ?_) rfl (by kernel_rfl) (by kernel_rfl) (by kernel_rfl) (fun _ _ _ h => h) (Or.inl ⟨by rfl, ?_⟩) (by assumption) ?_
      rotate_left
      first | (focus ((intro w hSw; (try dsimp only at hSw); go_simp); (try with_reducible rfl); done)) | fail
      try simp only [Act.put, List.getElem_toArray, List.getElem_cons_zero, List.getElem_cons_succ, List.setIfInBounds_toArray, List.set_cons_zero, List.set_cons_succ]
      refine wpAnyH_take (i := 8) (v := ?_) rfl (by kernel_rfl) (by kernel_rfl) (by kernel_rfl) (fun _ _ _ h => h) (Or.inl ⟨by rfl, ?_⟩) (by assumption) ?_
      rotate_left
      first | (focus ((intro w hSw; (try dsimp only at hSw); go_simp); (try with_reducible rfl); done)) | fail
      try simp only [Act.put, List.getElem_toArray, List.getElem_cons_zero, List.getElem_cons_succ, List.setIfInBounds_toArray, List.set_cons_zero, List.set_cons_succ]
      refine wpAnyH_take (i := 9) (v := ?_) rfl (by kernel_rfl) (by kernel_rfl) (by kernel_rfl) (fun _ _ _ h => h) (Or.inl ⟨by rfl, ?_⟩) (by assumption) ?_
      rotate_left
      first | (focus ((intro w hSw; (try dsimp only at hSw); go_simp); (try with_reducible rfl); done)) | fail
      try simp only [Act.put, List.getElem_toArray, List.getElem_cons_zero, List.getElem_cons_succ, List.setIfInBounds_toArray, List.set_cons_zero, List.set_cons_succ]
      refine wpAnyH_take (i := 10) (v := ?_) rfl (by kernel_rfl) (by kernel_rfl) (by kernel_rfl) (fun _ _ _ h => h) (Or.inl ⟨by rfl, ?_⟩) (by assumption) ?_
      rotate_left
      first | (focus ((intro w hSw; (try dsimp only at hSw); go_simp); (try with_reducible rfl); done)) | fail
      try simp only [Act.put, List.getElem_toArray, List.getElem_cons_zero, List.getElem_cons_succ, List.setIfInBounds_toArray, List.set_cons_zero, List.set_cons_succ]
      refine wpAnyH_take (i := 11) (v := ?_) rfl (by kernel_rfl) (by kernel_rfl) (by kernel_rfl) (fun _ _ _ h => h) (Or.inl ⟨by rfl, ?_⟩) (by assumption) ?_
      rotate_left
      first | (focus ((intro w hSw; (try dsimp only at hSw); go_simp); (try with_reducible rfl); done)) | fail
      try simp only [Act.put, List.getElem_toArray, List.getElem_cons_zero, List.getElem_cons_succ, List.setIfInBounds_toArray, List.set_cons_zero, List.set_cons_succ]
      refine wpAnyH_ready (rs := [12]) (by kernel_rfl) (by simp) ?_
      refine AllReadyH.cons rfl (fun K hK => ?_) AllReadyH.nil
      go_simp
      refine (CX.out _).mono ?_; rintro e w5 ⟨A5, c5, rfl, o5, b5⟩
      go_wp2_with fail
      refine hK.out _ _ ?_ (fun hHeld => ?_)
      · (try dsimp only); exact keep3b hb0 (below_of_le b5 (show N ≤ wr.heap.size from hNr)) hHeld
      clear hK K
      try simp only [Act.put, List.getElem_toArray, List.getElem_cons_zero, List.getElem_cons_succ, List.setIfInBounds_toArray, List.set_cons_zero, List.set_cons_succ]
      have hO5 := Own.below HI.out.1.drew b5 (Nat.le_refl _)
      have hB5 := HI.out.2.1.drew.trans (below_of_le b5 hNr)
      obtain ⟨A6, c6, w6, q6, o6, b6, _, _⟩ := appB w5 N A3 c3 l3 hO5 w5.heap.size A5 c5 pb o5.rd (by have := hl3.out; have := hdl.out; omega) (Nat.le_trans hNr b5.size)
      have HF := Lib.hid (And.intro o6 (hB5.trans b6))
      clear o5 o6 hO5 hB5
      refine wpAnyH_ready (rs := [13]) (by kernel_rfl) (by simp) ?_
      refine AllReadyH.cons rfl (fun K hK => ?_) AllReadyH.nil
      refine step_append_run (by rfl) (.tmp 15) (.tmp 27) _ _ (by rfl) _ _ (by rfl) (by rfl) _ _ q6 ?_
      refine hK.out _ _ ?_ (fun hHeld => ?_)
      · (try dsimp only); exact keep3b hb0 b6 hHeld
      clear hK K
      try simp only [Act.put, List.getElem_toArray, List.getElem_cons_zero, List.getElem_cons_succ, List.setIfInBounds_toArray, List.set_cons_zero, List.set_cons_succ]
      clear q6 b6 b5
      refine wpAnyH_take (i := 14) (v := ?_) rfl (by kernel_rfl) (by kernel_rfl) (by kernel_rfl) (fun _ _ _ h => h) (Or.inl ⟨by rfl, ?_⟩) (by assumption) ?_
      rotate_left
      first | (focus ((intro w hSw; (try dsimp only at hSw); go_simp); (try with_reducible rfl); done)) | fail
      try simp only [Act.put, List.getElem_toArray, List.getElem_cons_zero, List.getElem_cons_succ, List.setIfInBounds_toArray, List.set_cons_zero, List.set_cons_succ]
      refine wpAnyH_done (by kernel_rfl) ?_ _
      go_wp2
      go_roundw
      case rel => exact ⟨j + 1, l3 ++ pb, A6, c6, by omega, by go_num, htk.out, by simp, HF.out.1, HF.out.2⟩
      case measure => simp [intOf]; omega
    · have hj' : n = j := by omega
      subst hj'
      have HE := Lib.hid (show NewB w (vput n ++ dsP L) (.returned (.slice A3 l3.length c3)) wr from by
        have e : l3 = vput n ++ dsP L := by rw [HI.out.2.2, List.take_of_length_le (by have := HLn.out; omega)]
        have h1 := HI.out.1
        have h2 := HI.out.2.1
        rw [e] at h1
        exact ⟨A3, c3, by rw [e], by rw [hN]; exact h1, by rw [hN]; exact h2⟩)
      go_wp2
      go_ret
      exact HE.out
set_option maxHeartbeats 2000000 in
theorem rput18_any (w : World) (Am : Option Addr) (cm : Nat) (L : List Dt) (hm : MsAt w Am L) (hL : Dw L) (hn : L.length ≤ 1000) (hbn : (rBase L).length ≤ 1000) :
    Calls Try.prog 61 #[.slice Am L.length cm] w (NewB w (sP (rBase L) (rBeyond L))) := by
  have CB := Lib.hid (rbase18_any w Am cm L hm hL (by omega))
  have CP := Lib.hid (fun (W : World) (A : Option Addr) (c : Nat) (h : MsAt W A (rBase L)) => rput17_any W A c (rBase L) h (rBase_vw hL).2 hbn)
  have CO := Lib.hid (fun (W : World) (h : MsAt W Am L) => rbeyond18_any W Am cm L h hL (by omega))
  have hb2 : (rBeyond L).length ≤ 1000 := by have := List.length_filter_le (fun x => decide (upN L x.1 < x.2)) L; unfold rBeyond; omega
  have CN := Lib.hid (fun W => rnum5_any (rBeyond L).length W (by omega))
  have CD := Lib.hid (fun (x : Dt) (hq : dotB x.1.1 x.1.2 x.2 = true) W => rdput_any x.1.1 x.1.2 x.2 hq W)
  have hlM := nP_len (rBase L) (by omega)
  have hvl := vput_le (x := (rBeyond L).length) (by omega)
  have hrB := Lib.hid (show ∀ x ∈ rBeyond L, rightD x = true from fun x hx => hL.2 x (List.mem_filter.1 hx).1)
  have hsP : sP (rBase L) (rBeyond L) = nP (rBase L) ++ (vput (rBeyond L).length ++ dsP (rBeyond L)) := rfl
  rw [hsP]
  have HM := Lib.hid hm
  generalize (nP (rBase L)) = l1 at *
  generalize rBase L = M at *
  generalize rBeyond L = B at *
  generalize L.length = nl at *
  generalize hlen : B.length = n at *
  have HLn := Lib.hid hlen
  have y1 : IntKind.u64.wrap (n : Int) = (n : Int) := by rw [IntKind.wrap_u64]; omega
  unfold dotV at CD
  generalize hN : w.heap.size = N at *
  clear hm hsP hlen hL
  go_enter Try.func61, Try.ntmps61
  go_wp2_with fail
  refine (CB.out).mono ?_; rintro e w1 ⟨A1, c1, rfl, o1, b1⟩
  have H1 := Lib.hid (And.intro (MsAt.own o1) b1)
  have hN1 : N ≤ w1.heap.size := by have := b1.size; omega
  clear o1 b1 CB
  go_wp2_with fail
  refine (CP.out _ _ _ H1.out.1).mono ?_; rintro e w2 ⟨A2, c2, rfl, o2, b2⟩
  have H2 := Lib.hid (And.intro (o2.base_le hN1) ((show Below N w w1 from hN ▸ H1.out.2).trans (below_of_le b2 hN1)))
  have hN2 : N ≤ w2.heap.size := Nat.le_trans hN1 b2.size
  clear o2 b2 CP H1
  go_wp2_with fail
  refine (CO.out _ (HM.out.up (by rw [hN]; exact H2.out.2))).mono ?_; rintro e w3 ⟨A3, c3, he, o3, b3⟩
  rw [HLn.out] at he
  subst he
  have H3 := Lib.hid (And.intro (H2.out.1.below b3 (Nat.le_refl _)) (And.intro (H2.out.2.trans (below_of_le b3 hN2)) (MsAt.own o3)))
  have hN3 : N ≤ w3.heap.size := Nat.le_trans hN2 b3.size
  have hf3 := Lib.hid (show ∀ k, bl A3 = some k → bl A2 ≠ some k from fun k hk e => by
    have h1 := o3.bl_lo k hk
    have h2 := (H2.out.1.block_lt k (by rw [ownBlock_bl]; exact e)).2
    omega)
  clear o3 b3 CO H2
  go_wp2_with fail
  refine (CN.out _).mono ?_; rintro e w4 ⟨A4, c4, rfl, o4, b4⟩
  have hN4 : N ≤ w4.heap.size := Nat.le_trans hN3 b4.size
  have hbl1 : l1.length ≤ 40000 := by omega
  have hA3 := Lib.hid (show ∀ k, bl A3 = some k → B ≠ [] → k < w3.heap.size from fun k hk hne => by
    obtain ⟨x, hx⟩ : ∃ x, B[0]? = some x := ⟨B[0]'(List.length_pos_iff.2 hne), List.getElem?_eq_getElem _⟩
    exact (by
      obtain ⟨b0, o0, hA, hb0, _⟩ := Ds.at_ (show Ds w3 w3.heap.size A3 B from H3.out.2.2) hx
      subst hA
      simp [bl] at hk
      omega))
  obtain ⟨A5, c5, w5, q5, o5, b5, ch5, nr5⟩ := appB w4 N A2 c2 l1 (H3.out.1.below b4 (Nat.le_refl _)) w4.heap.size A4 c4 (vput n) o4.rd (by omega) hN4
  have Q5 := Lib.hid q5
  have H5 := Lib.hid (And.intro o5 (And.intro ((H3.out.2.1.trans (below_of_le b4 hN3)).trans b5) (And.intro ((H3.out.2.2.up b4).ch ch5 (fun k hk e => hf3.out k hk e.symm)) (show ∀ k, bl A3 = some k → B ≠ [] → bl A5 ≠ some k from fun k hk hne e => by
    rcases nr5 k e with h | h
    · exact hf3.out k hk h
    · have := hA3.out k hk hne
      have := b4.size
      omega))))
  clear q5 o5 b5 ch5 nr5 o4 b4 H3
  go_wp2_with (at_builtin; refine wpList_want (by rfl) (fun K hK => wp_append_runs _ _ _ _ _ rfl _ _ rfl rfl _ _ Q5.out (hK _ _ ?_)))
  go_loopw [3, 5] (fun y i wr => ∃ (j : Nat) (l3 : List UInt8) (A6 : Option Addr) (c6 : Nat), j ≤ n ∧ i = .int .i64 j ∧ l3 = l1 ++ (vput n ++ dsP (B.take j)) ∧ y = .slice A6 l3.length c6 ∧ Own wr N 5 1 A6 l3.length c6 (bv l3) ∧ Below N w wr ∧ MsAt wr A3 B ∧ (∀ k, bl A3 = some k → B ≠ [] → bl A6 ≠ some k)) (fun _ i _ => n - (intOf i).toNat)
  case atStart => exact ⟨0, l1 ++ vput n, A5, c5, by omega, rfl, by simp [dsP], by simp, H5.out.1, H5.out.2.1, H5.out.2.2.1, H5.out.2.2.2⟩
  case round =>
    obtain ⟨j, l3, A6, c6, hj, rfl, hl3, rfl, hO, hb, hMs, hfar⟩ := hrel
    have HI := Lib.hid (And.intro hO (And.intro hb (And.intro hl3 (And.intro hMs hfar))))
    clear hO hb H5 hl3 hMs hfar
    by_cases hlt : j < n
    · obtain ⟨x, hx⟩ : ∃ x, B[j]? = some x := ⟨B[j]'(by have := HLn.out; omega), List.getElem?_eq_getElem _⟩
      obtain ⟨b0, o0, hA, hb0, k0, k1, k2⟩ := Ds.at_ (show Ds wr wr.heap.size A3 B from HI.out.2.2.2.1) hx
      have hnil : B ≠ [] := by rintro rfl; cases hx
      have htk := Lib.hid (show l3 ++ dP x = l1 ++ (vput n ++ dsP (B.take (j + 1))) by rw [HI.out.2.2.1, List.append_assoc, nP_take hx])
      have hl3 := Lib.hid (show l3.length ≤ 80000 from by
        have := nP_take_len B n j (by omega)
        rw [HI.out.2.2.1, List.length_append]
        omega)
      have CX := Lib.hid (CD.out x (hrB.out x (List.mem_of_getElem? hx)))
      have hdl := Lib.hid (dP_len x)
      obtain ⟨⟨d, i⟩, q⟩ := x
      unfold dP at htk hdl
      simp only at k0 k1 k2 CX htk hdl
      have hNr : N ≤ wr.heap.size := by have := HI.out.2.1.size; omega
      have hb0' := Lib.hid hb0
      clear hx
      subst hA
      generalize dotP d i q = pb at *
      go_wp2_with fail
      refine (CX.out _).mono ?_; rintro e w6 ⟨A7, c7, rfl, o7, b7⟩
      have hO7 := Own.below HI.out.1 b7 (Nat.le_refl _)
      obtain ⟨A8, c8, w8, q8, o8, b8, ch8, nr8⟩ := appB w6 N A6 c6 l3 hO7 w6.heap.size A7 c7 pb o7.rd (by have := hl3.out; have := hdl.out; omega) (Nat.le_trans hNr b7.size)
      have Q8 := Lib.hid q8
      have HF := Lib.hid (And.intro o8 (And.intro ((HI.out.2.1.trans (below_of_le b7 hNr)).trans b8) (And.intro ((HI.out.2.2.2.1.up b7).ch ch8 (fun k hk e => HI.out.2.2.2.2 k hk hnil e.symm)) (show ∀ k, bl (some ⟨b0, o0, none⟩) = some k → B ≠ [] → bl A8 ≠ some k from fun k hk hne e => by
        rcases nr8 k e with h | h
        · exact HI.out.2.2.2.2 k hk hne h
        · simp [bl] at hk
          have := b7.size
          have := hb0'.out
          omega))))
      clear o7 b7 hO7 q8 o8 b8 ch8 nr8
      go_wp2_with (at_builtin; refine wpList_want (by rfl) (fun K hK => wp_append_runs _ _ _ _ _ rfl _ _ rfl rfl _ _ Q8.out (hK _ _ ?_)))
      go_wp2
      go_roundw
      case rel => exact ⟨j + 1, l3 ++ pb, A8, c8, by omega, by go_num, htk.out, by simp, HF.out.1, HF.out.2.1, HF.out.2.2.1, HF.out.2.2.2⟩
      case measure => simp [intOf]; omega
    · have hj' : n = j := by omega
      subst hj'
      have HE := Lib.hid (show NewB w (l1 ++ (vput n ++ dsP B)) (.returned (.slice A6 l3.length c6)) wr from by
        have e : l3 = l1 ++ (vput n ++ dsP B) := by rw [HI.out.2.2.1, List.take_of_length_le (by have := HLn.out; omega)]
        have h1 := HI.out.1
        have h2 := HI.out.2.1
        rw [e] at h1
        exact ⟨A6, c6, by rw [e], by rw [hN]; exact h1, by rw [hN]; exact h2⟩)
      go_wp2
      go_ret
      exact HE.out
end Go.Proofs.Ytailbppddnegoaa
