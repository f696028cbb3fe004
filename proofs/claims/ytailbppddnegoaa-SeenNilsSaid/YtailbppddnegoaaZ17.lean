/- Layer 18 (seen): the walk of the law SeenTurned. -/
import Derived.Test.YtailbppddnegoaaZ16
import Derived.Test.YtailbppddnegoaaZ13
namespace Go.Proofs.Ytailbppddnegoaa
open Go.RowKit
set_option linter.unusedVariables false
set_option maxRecDepth 100000
attribute [local go_sem ↓] Go.wp_at_zero Go.wp_at_succ

/-- A list turned: each dot of it, and no other one. -/
def TurnOk (L m : List Dt) (t : Nat) (k : Nat) : Prop := m.length = L.length - k ∧ (∀ x ∈ m, x ∈ L) ∧ ∀ i x, k ≤ i → i < L.length → L[(i + t) % L.length]? = some x → x ∈ m
theorem TurnOk.start (L : List Dt) (t : Nat) : TurnOk L [] t L.length := ⟨by simp, by simp, fun i x h1 h2 => by omega⟩
theorem TurnOk.step {L m : List Dt} {t k : Nat} {x : Dt} (h : TurnOk L m t (k + 1)) (hk : k < L.length) (hx : L[(k + t) % L.length]? = some x) : TurnOk L (m ++ [x]) t k := by
  refine ⟨?_, fun y hy => ?_, fun i y h1 h2 hy => ?_⟩
  · rw [List.length_append, h.1]; simp; omega
  · rcases List.mem_append.1 hy with hy | hy
    · exact h.2.1 y hy
    · simp at hy; subst hy; exact List.mem_of_getElem? hx
  · by_cases e : i = k
    · subst e
      rw [hx] at hy
      cases hy
      simp
    · exact List.mem_append_left _ (h.2.2 i y (by omega) h2 hy)
theorem TurnOk.done {L m : List Dt} {t : Nat} (h : TurnOk L m t 0) (ht : t < L.length) (x : Dt) : x ∈ m ↔ x ∈ L := by
  refine ⟨h.2.1 x, fun hx => ?_⟩
  obtain ⟨q, hq, hqx⟩ := List.mem_iff_getElem.1 hx
  have hL : L[q]? = some x := by rw [List.getElem?_eq_getElem hq, hqx]
  by_cases h1 : t ≤ q
  · refine h.2.2 (q - t) x (by omega) (by omega) ?_
    rw [show q - t + t = q by omega, Nat.mod_eq_of_lt hq]
    exact hL
  · refine h.2.2 (q + L.length - t) x (by omega) (by omega) ?_
    rw [show q + L.length - t + t = q + L.length by omega, Nat.add_mod_right, Nat.mod_eq_of_lt hq]
    exact hL
theorem smade_turned {L m : List Dt} {t : Nat} (h : TurnOk L m t 0) (ht : t < L.length) (hl : L.length ≤ 60) : smade m = smade L := by
  refine dsrt_ext (dw_smade m).1 (dw_smade L).1 fun x => ?_
  rw [mem_smade, mem_smade, List.take_of_length_le (by have := h.1; omega), List.take_of_length_le hl, h.done ht]
theorem SetL.lenM {M B L : List Dt} (h : SetL M B L) : M.length ≤ L.length := by
  have hp : M.Perm (L.filter fun x => decide (x ∈ M)) := nodup_perm h.sw.vw.1.dsrt.nodup ((h.dw.1.filter _).nodup) fun x => by
    rw [List.mem_filter, decide_eq_true_eq]
    refine ⟨fun hx => ⟨(h.mem x).2 (.inr ⟨h.sw.vw.2 x hx, ?_⟩), hx⟩, fun hx => hx.2⟩
    have := mget_mem h.sw.vw.1.nodup hx
    omega
  have := hp.length_eq
  have := List.length_filter_le (fun x => decide (x ∈ M)) L
  omega
set_option maxHeartbeats 1000000 in
theorem is18_all (w : World) (s v b g : Nat) (A : Option Addr) (c : Nat) (S M B : List Dt) (hset : SetIs w s v b g M B) (hl : SetL M B S) (hat : MsAt w A S) (hn : S.length ≤ 1000000) :
    Calls Try.prog 45 #[.pointer (some ⟨s, 0, none⟩), .slice A S.length c] w fun e w' => e = .returned (.bool true) ∧ Below w.heap.size w w' := by
  have hS := hl.len
  have C1 := Lib.hid (ssbase_any w _ M B hset.at_)
  have C2 := Lib.hid (fun (W : World) (hW : MsAt W A S) => rbase18_any W A c S hW hl.dw (by omega))
  have C3 := Lib.hid (fun (W : World) (A A' : Option Addr) (c c' : Nat) (hr : MsAt W A M) (hr' : MsAt W A' M) => rsame17_any W W.heap.size W.heap.size A A' c c' M M hr hr' (Nat.le_refl _) (Nat.le_refl _) (by have := hl.sw.vw.len; omega))
  have C4 := Lib.hid (fun (W : World) (hW : SetIs W s v b g M B) => ssbeyond_any W _ M B hW.at_ (by omega))
  have C5 := Lib.hid (fun (W : World) (hW : MsAt W A S) => rbeyond18_any W A c S hW hl.dw hn)
  have C6 := Lib.hid (fun (W : World) (A A' : Option Addr) (c c' : Nat) (hr : MsAt W A B) (hr' : MsAt W A' B) => rsame16_any W W.heap.size W.heap.size A A' c c' B B hr hr' (Nat.le_refl _) (Nat.le_refl _) (by omega))
  rw [hl.base] at C2
  rw [hl.beyond] at C5
  simp only [decide_true] at C3 C6
  have H0 := Lib.hid (And.intro hset (And.intro hat (Below.refl w.heap.size w)))
  clear hset hl hat hS
  generalize S.length = sl at *
  generalize hN : w.heap.size = N at *
  go_enter Try.func45, Try.ntmps45
  go_wp2_with fail
  refine C1.out.mono ?_; rintro e w1 ⟨A1, c1, rfl, o1, b1⟩
  have H1 := Lib.hid (And.intro (H0.out.1.up b1) (And.intro (H0.out.2.1.up b1) (And.intro (H0.out.2.2.trans (below_of_le b1 (by omega))) (MsAt.own o1))))
  have hN1 : N ≤ w1.heap.size := Nat.le_trans (Nat.le_of_eq hN.symm) H1.out.2.2.1.size
  clear o1 b1 H0
  go_wp2_with fail
  refine (C2.out _ H1.out.2.1).mono ?_; rintro e w2 ⟨A2, c2, rfl, o2, b2⟩
  have H2 := Lib.hid (And.intro (H1.out.1.up b2) (And.intro (H1.out.2.1.up b2) (And.intro (H1.out.2.2.1.trans (below_of_le b2 hN1)) (And.intro (H1.out.2.2.2.up b2) (MsAt.own o2)))))
  have hN2 : N ≤ w2.heap.size := Nat.le_trans hN1 b2.size
  clear o2 b2 H1
  go_wp2_with fail
  refine (C3.out _ _ _ _ _ H2.out.2.2.2.1 H2.out.2.2.2.2).mono ?_; rintro e w3 ⟨rfl, b3⟩
  have H3 := Lib.hid (And.intro (H2.out.1.up b3) (And.intro (H2.out.2.1.up b3) (H2.out.2.2.1.trans (below_of_le b3 hN2))))
  have hN3 : N ≤ w3.heap.size := Nat.le_trans hN2 b3.size
  clear b3 H2
  go_wp2_with fail
  refine (C4.out _ H3.out.1).mono ?_; rintro e w4 ⟨A4, c4, rfl, o4, b4⟩
  have H4 := Lib.hid (And.intro (H3.out.2.1.up b4) (And.intro (H3.out.2.2.trans (below_of_le b4 hN3)) (MsAt.own o4)))
  have hN4 : N ≤ w4.heap.size := Nat.le_trans hN3 b4.size
  clear o4 b4 H3
  go_wp2_with fail
  refine (C5.out _ H4.out.1).mono ?_; rintro e w5 ⟨A5, c5, rfl, o5, b5⟩
  have H5 := Lib.hid (And.intro (H4.out.2.1.trans (below_of_le b5 hN4)) (And.intro (H4.out.2.2.up b5) (MsAt.own o5)))
  have hN5 : N ≤ w5.heap.size := Nat.le_trans hN4 b5.size
  clear o5 b5 H4
  go_wp2_with fail
  refine (C6.out _ _ _ _ _ H5.out.2.1 H5.out.2.2).mono ?_; rintro e w6 ⟨rfl, b6⟩
  have H6 := Lib.hid (H5.out.1.trans (below_of_le b6 hN5))
  clear b6 H5
  go_wp2
  go_ret
  exact ⟨rfl, H6.out⟩
theorem wr_new' (w : World) (base : Nat) (h : base ≤ w.heap.size) : Wr (w.alloc (.cells #[.slice none 0 0] 80)) base w.heap.size none 0 [] :=
  ⟨h, Whole.new _ _ _, Own.nil_⟩
set_option maxHeartbeats 20000000 in
theorem seenTurned_in (w : World) (Al : Option Addr) (cl : Nat) (L : List Dt) (a : Int) (hr : MsAt w Al L) (hok : ∀ y ∈ L, dtOk y) (ha : 0 ≤ a ∧ a ≤ 255) (h0 : 0 < L.length) (hn : L.length ≤ 60) :
    Calls Try.prog 11 #[.slice Al L.length cl, .int .u8 a] w fun e w' => e = .returned (.bool true) ∧ Below w.heap.size w w' := by
  have C9 := Lib.hid awake18_any
  have HR := Lib.hid (And.intro (show MsAt w Al L from hr) hok)
  generalize hlen : L.length = n at *
  have HL := Lib.hid hlen
  generalize hN : w.heap.size = N at *
  obtain ⟨t, ht, htn⟩ : ∃ t : Nat, a % (n : Int) = (t : Int) ∧ t < n := ⟨(a % (n : Int)).toNat, by have := Int.emod_nonneg a (show (n : Int) ≠ 0 by omega); omega, by have := Int.emod_lt_of_pos a (show (0 : Int) < n by omega); have := Int.emod_nonneg a (show (n : Int) ≠ 0 by omega); omega⟩
  clear hr hok hlen
  have hz1 : ((n : Int) == 0) = false := by simp; omega
  have hz2 : decide (60 < (n : Int)) = false := by simp; omega
  have hoe := own_e3 w 27 w.heap.size (Nat.le_refl _)
  have H0 := Lib.hid (And.intro (show Own (w.alloc (.cells #[] 27)) w.heap.size 27 3 (some ⟨w.heap.size, 0, none⟩) 0 0 (dts []) by simpa [dts] using hoe) ((Below.refl w.heap.size w).alloc (Nat.le_refl _) (.cells #[] 27)))
  rw [hN] at H0
  clear hoe
  go_enter Try.func11, Try.ntmps11
  go_wp2_with fail
  generalize (w.alloc (.cells #[] 27)) = W0 at *
  go_loopw [6, 7] (fun y i wr => ∃ (k : Nat) (A3 : Option Addr) (c3 : Nat) (m : List Dt), k ≤ n ∧ i = .int .i64 ((k : Int) - 1) ∧ TurnOk L m t k ∧ y = .slice A3 m.length c3 ∧ Own wr N 27 3 A3 m.length c3 (dts m) ∧ Below N w wr) (fun _ i _ => (intOf i + 1).toNat)
  case atStart => exact ⟨n, some ⟨N, 0, none⟩, 0, [], by omega, rfl, by have := TurnOk.start L t; rw [HL.out] at this; exact this, rfl, H0.out.1, H0.out.2⟩
  case round =>
    obtain ⟨k, A3, c3, m, hk, rfl, hT, rfl, hO, hb⟩ := hrel
    have HI := Lib.hid (And.intro hT (And.intro hO hb))
    clear hT hO hb H0
    have hml := HI.out.1.1
    rw [HL.out] at hml
    cases k with
    | succ k =>
      have e1 : (((k + 1 : Nat) : Int) - 1) = (k : Int) := by omega
      rw [e1]
      obtain ⟨r, hr, hrn⟩ : ∃ r : Nat, ((k : Int) + (t : Int)) % (n : Int) = (r : Int) ∧ r = (k + t) % n := ⟨(k + t) % n, by rw [Int.natCast_emod, Int.natCast_add], rfl⟩
      have hrl : r < n := by rw [hrn]; exact Nat.mod_lt _ h0
      obtain ⟨x, hx⟩ : ∃ x, L[r]? = some x := ⟨L[r]'(by have := HL.out; omega), List.getElem?_eq_getElem _⟩
      obtain ⟨b0, o0, hA, hb0, k0, k1, k2⟩ := (Ds.below (hN ▸ HR.out.1 : Ds w N Al L) HI.out.2.2).at_ hx
      have hst := Lib.hid (HI.out.1.step (x := x) (by have := HL.out; omega) (by rw [HL.out, ← hrn]; exact hx))
      obtain ⟨⟨d, i⟩, q⟩ := x
      simp only at k0 k1 k2
      clear hx hrn e1
      subst hA
      generalize hm0 : m.length = m0 at *
      have hNr : N ≤ wr.heap.size := by have := HI.out.2.2.size; omega
      obtain ⟨A4, c4, w4, q4, o4, ch4, b4⟩ := app1d wr N A3 m0 c3 m hm0 HI.out.2.1 ((d, i), q) (by omega) hNr
      have HF := Lib.hid (And.intro o4 (HI.out.2.2.trans b4))
      have Q4 := Lib.hid q4
      clear o4 ch4 b4 q4
      go_wp2_with (at_builtin; refine wpList_want (by rfl) (fun K hK => wp_append_runs _ _ _ _ _ rfl _ _ rfl rfl _ _ Q4.out (hK _ _ ?_)))
      go_wp2
      go_roundw
      case rel =>
        exact ⟨k, by omega, rfl, A4, c4, m ++ [((d, i), q)], hst.out, ⟨rfl, by rw [List.length_append, hm0]; simp; omega, rfl⟩, by
          have h := HF.out.1
          rw [← hm0, show m.length + 1 = (m ++ [((d, i), q)]).length by simp] at h
          exact h, HF.out.2⟩
      case measure => simp only [intOf]; omega
    | zero =>
      have hsm := Lib.hid (show smade m = smade L from smade_turned HI.out.1 (by have := HL.out; omega) (by have := HL.out; omega))
      have hs60 := smade_len L
      have CM := Lib.hid (fun W (h : MsAt W Al L) => made18_any W Al cl L h HR.out.2 (by have := HL.out; omega))
      have CM' := Lib.hid (fun W (h : MsAt W A3 m) => made18_any W A3 c3 m h (fun y hy => HR.out.2 y (HI.out.1.2.1 y hy)) (by omega))
      rw [hsm.out] at CM'
      rw [HL.out] at CM
      generalize smade L = S at *
      have HI2 := Lib.hid (And.intro (MsAt.own HI.out.2.1) HI.out.2.2)
      have hNr : N ≤ wr.heap.size := by have := HI.out.2.2.size; omega
      clear HI hsm
      generalize m.length = ml at *
      have hml2 : n = ml := by omega
      subst hml2
      clear hml
      go_wp2_with fail
      refine (CM.out _ (MsAt.up HR.out.1 (by rw [hN]; exact HI2.out.2))).mono ?_; rintro e w1 ⟨s, v, b, g, M, B, A, c, rfl, hs, hv, ht1, b1⟩
      have H1 := Lib.hid (And.intro ht1 (And.intro (HI2.out.1.up b1) (HI2.out.2.trans (below_of_le b1 hNr))))
      have hN1 : N ≤ w1.heap.size := Nat.le_trans hNr b1.size
      clear ht1 b1 CM HI2
      go_wp2_with fail
      refine (CM'.out _ H1.out.2.1).mono ?_; rintro e w2 ⟨so, vo, bo, go, MO, BO, A', c', rfl, hso, hvo, ht2, b2⟩
      have eM : M = MO := (ht2.l.base.symm.trans H1.out.1.l.base).symm
      have eB : B = BO := (ht2.l.beyond.symm.trans H1.out.1.l.beyond).symm
      subst eM eB
      have hN2 : N ≤ w2.heap.size := Nat.le_trans hN1 b2.size
      have H2 := Lib.hid (show GJ w N s v b g so vo bo go A A' S S M B M B w2 from ⟨H1.out.1.set.up b2, ht2.set, H1.out.1.at_.up b2, ht2.at_, H1.out.2.2.trans (below_of_le b2 hN1), hN2⟩)
      have HL1 := Lib.hid ht2.l
      clear ht2 b2 H1 CM'
      have hlM := HL1.out.lenM
      have hlB := HL1.out.len
      have e1 := HL1.out.base
      have e2 := HL1.out.beyond
      have CI := Lib.hid (fun W (h : GJ w N s v b g so vo bo go A A' S S M B M B W) => is18_all W so vo bo go A c S M B h.oth HL1.out h.x (by omega))
      have CR := Lib.hid (fun W (h : GJ w N s v b g so vo bo go A A' S S M B M B W) => rput18_any W A c S h.x HL1.out.dw (by omega) (by rw [e1]; omega))
      rw [e1, e2] at CR
      have hlP : (sP M B).length ≤ 10000 := by
        have h1 := nP_len M (by omega)
        have h2 := nP_len B (by omega)
        unfold sP
        rw [List.length_append]
        omega
      have CP1 := Lib.hid (fun (W : World) (bs q : Nat) (p : Option Addr) (h : Wr W bs q none 0 []) (hb : bs ≤ W.heap.size) (hs : SetAt W p M B) (keep : ∀ W', Ch (fun k => k = q ∨ bl none = some k) W W' → SetAt W' p M B) => ssput_any W bs q none 0 [] p M B h hb (by simp) hs keep (by omega) (by omega))
      have CB := Lib.hid (fun (W : World) (bs q : Nat) (A : Option Addr) (c : Nat) (h : Wr W bs q A c (sP M B)) => wbytes_any W bs q A c (sP M B) h (by omega))
      have CS := Lib.hid (fun (W : World) (A A' : Option Addr) (c c' : Nat) (h1 : Rd W W.heap.size 1 A (sP M B).length (bv (sP M B))) (h2 : Rd W W.heap.size 1 A' (sP M B).length (bv (sP M B))) => same_any (sP M B) A A' (sP M B).length (sP M B).length c c' W.heap.size W (by omega) h1 h2 (Nat.le_refl _))
      rw [List.nil_append] at CP1
      generalize S.length = sl at *
      generalize hz2' : w2.heap.size = z2 at *
      clear e1 e2
      generalize hPP : sP M B = PP at *
      clear hPP
      generalize hpl : PP.length = pl at *
      have hq1 := wr_new' w2 z2 (by omega)
      rw [hz2'] at hq1
      have hq2 := wr_new' (w2.alloc (.cells #[.slice none 0 0] 80)) z2 (by simp; omega)
      have hs2 : (w2.alloc (.cells #[.slice none 0 0] 80)).heap.size = z2 + 1 := by simp [hz2']
      rw [hs2] at hq2
      have hb1 : Below z2 w2 ((w2.alloc (.cells #[.slice none 0 0] 80)).alloc (.cells #[.slice none 0 0] 80)) := ((Below.refl z2 w2).alloc (by omega) _).alloc (by omega) _
      have H3 := Lib.hid (And.intro hb1 (And.intro (hq1.below ((Below.refl _ _).alloc (Nat.le_refl _) (.cells #[.slice none 0 0] 80))) (And.intro hq2 (show z2 + 2 = ((w2.alloc (.cells #[.slice none 0 0] 80)).alloc (.cells #[.slice none 0 0] 80)).heap.size by simp [hz2']))))
      have HG := Lib.hid (fun W (hb : Below z2 w2 W) => GJ.up H2.out (show Below w2.heap.size w2 W by rw [hz2']; exact hb))
      clear hq1 hq2 hb1 hs2
      go_wp2_with fail
      generalize ((w2.alloc (.cells #[.slice none 0 0] 80)).alloc (.cells #[.slice none 0 0] 80)) = W3 at *
      have hzW := H3.out.2.2.2
      have hzle : z2 ≤ W3.heap.size := by omega
      have hz1 : z2 + 1 < W3.heap.size := by omega
      have hltS := Lib.hid (And.intro H2.out.set.lts (And.intro H2.out.set.ltv (And.intro H2.out.set.ltb H2.out.set.ltg)))
      have hltO := Lib.hid (And.intro H2.out.oth.lts (And.intro H2.out.oth.ltv (And.intro H2.out.oth.ltb H2.out.oth.ltg)))
      rw [hz2'] at hltS hltO
      clear hzW
      refine (CP1.out W3 z2 z2 (some ⟨s, 0, none⟩) H3.out.2.1 hzle (HG.out _ H3.out.1).set.at_ (fun W' hc => ((HG.out _ H3.out.1).set.ch hc (by rintro (e | e); (have := hltS.out; omega); cases e) (by rintro (e | e); (have := hltS.out; omega); cases e) (by rintro (e | e); (have := hltS.out; omega); cases e) (by rintro (e | e); (have := hltS.out; omega); cases e)).at_)).mono ?_; rintro e w4 ⟨A4, c4, rfl, hw4, st4⟩
      have hA4 := Lib.hid (show ∀ k, bl A4 = some k → W3.heap.size ≤ k from fun k hk => by
        rcases st4.2 k hk with h | h
        · cases h
        · exact h)
      have H4 := Lib.hid (And.intro (H3.out.1.trans (st4.1.below (fun k hk e => by rcases e with e | e; (subst e; omega); cases e) hzle)) (And.intro hw4 (And.intro (H3.out.2.2.1.ch st4.1 (by rintro (e | e); omega; cases e) (by intro g hg; cases hg)) st4.1.size)))
      clear hw4 st4 H3
      go_wp2_with fail
      have hz4 : z2 + 1 < w4.heap.size := by have := H4.out.2.2.2; omega
      have hz4' : z2 ≤ w4.heap.size := by omega
      refine (CP1.out w4 z2 (z2 + 1) (some ⟨so, 0, none⟩) H4.out.2.2.1 hz4' (HG.out _ H4.out.1).oth.at_ (fun W' hc => ((HG.out _ H4.out.1).oth.ch hc (by rintro (e | e); (have := hltO.out; omega); cases e) (by rintro (e | e); (have := hltO.out; omega); cases e) (by rintro (e | e); (have := hltO.out; omega); cases e) (by rintro (e | e); (have := hltO.out; omega); cases e)).at_)).mono ?_; rintro e w5 ⟨A5, c5, rfl, hw5, st5⟩
      have H5 := Lib.hid (And.intro (H4.out.1.trans (st5.1.below (fun k hk e => by rcases e with e | e; (subst e; omega); cases e) hz4')) (And.intro (H4.out.2.1.ch st5.1 (by rintro (e | e); omega; cases e) (by
        intro g hg e
        have := hA4.out g hg
        rcases e with e | e
        · omega
        · cases e)) hw5))
      have hz5' : z2 ≤ w5.heap.size := Nat.le_trans hz4' st5.1.size
      clear hw5 st5 H4 CP1
      go_wp2_with fail
      refine (CI.out _ (HG.out _ H5.out.1)).mono ?_; rintro e w6 ⟨rfl, b6⟩
      have H6 := Lib.hid (And.intro (H5.out.1.trans (below_of_le b6 hz5')) (And.intro (H5.out.2.1.below b6) (H5.out.2.2.below b6)))
      have hz6 : z2 ≤ w6.heap.size := Nat.le_trans hz5' b6.size
      clear b6 H5 CI
      go_wp2_with fail
      refine (CB.out _ _ _ _ _ H6.out.2.1).mono ?_; rintro e w7 ⟨A7, c7, he, o7, b7⟩
      rw [hpl] at he
      subst he
      have H7 := Lib.hid (And.intro (H6.out.1.trans (below_of_le b7 hz6)) (And.intro (H6.out.2.1.below b7) (And.intro (H6.out.2.2.below b7) (show Rd w7 w7.heap.size 1 A7 pl (bv PP) by have := o7.rd; rw [hpl] at this; exact this))))
      have hz7 : z2 ≤ w7.heap.size := Nat.le_trans hz6 b7.size
      clear o7 b7 H6
      go_wp2_with fail
      refine (CB.out _ _ _ _ _ H7.out.2.2.1).mono ?_; rintro e w8 ⟨A8, c8, he, o8, b8⟩
      rw [hpl] at he
      subst he
      have H8 := Lib.hid (And.intro (H7.out.1.trans (below_of_le b8 hz7)) (And.intro (H7.out.2.1.below b8) (And.intro ((H7.out.2.2.2.below b8).more b8.size) (show Rd w8 w8.heap.size 1 A8 pl (bv PP) by have := o8.rd; rw [hpl] at this; exact this))))
      have hz8 : z2 ≤ w8.heap.size := Nat.le_trans hz7 b8.size
      clear o8 b8 H7
      go_wp2_with fail
      refine (CS.out _ _ _ _ _ H8.out.2.2.1 H8.out.2.2.2).mono ?_; rintro e w9 ⟨rfl, b9⟩
      have H9 := Lib.hid (And.intro (H8.out.1.trans (below_of_le b9 hz8)) (H8.out.2.1.below b9))
      have hz9 : z2 ≤ w9.heap.size := Nat.le_trans hz8 b9.size
      clear b9 H8
      go_wp2_with fail
      refine (CB.out _ _ _ _ _ H9.out.2).mono ?_; rintro e wa ⟨Aa, ca, he, oa, ba⟩
      rw [hpl] at he
      subst he
      have HA := Lib.hid (And.intro (H9.out.1.trans (below_of_le ba hz9)) (show Rd wa wa.heap.size 1 Aa pl (bv PP) by have := oa.rd; rw [hpl] at this; exact this))
      have hza : z2 ≤ wa.heap.size := Nat.le_trans hz9 ba.size
      clear oa ba H9 CB
      go_wp2_with fail
      refine (CR.out _ (HG.out _ HA.out.1)).mono ?_; rintro e wb ⟨Ab, cb, he, ob, bb⟩
      rw [hpl] at he
      subst he
      have HB := Lib.hid (And.intro (HA.out.1.trans (below_of_le bb hza)) (And.intro ((HA.out.2.below bb).more bb.size) (show Rd wb wb.heap.size 1 Ab pl (bv PP) by have := ob.rd; rw [hpl] at this; exact this)))
      have hzb : z2 ≤ wb.heap.size := Nat.le_trans hza bb.size
      clear ob bb HA CR
      go_wp2_with fail
      refine (CS.out _ _ _ _ _ HB.out.2.1 HB.out.2.2).mono ?_; rintro e wc ⟨rfl, bc⟩
      have HC := Lib.hid (HB.out.1.trans (below_of_le bc hzb))
      have hzc : z2 ≤ wc.heap.size := Nat.le_trans hzb bc.size
      clear bc HB CS
      go_wp2_with fail
      refine (C9.out _).mono ?_; rintro e wd ⟨rfl, bd⟩
      have HD := Lib.hid (H2.out.bel.trans (below_of_le (HC.out.trans (below_of_le bd hzc)) (by omega)))
      clear bd HC
      go_wp2
      go_ret
      exact ⟨rfl, HD.out⟩
theorem seenTurned_law (w : World) {vl : Value} {a : Int} (hl : IsRecs 3 w vl) (wa : (Lit.int .u8 a).wf = true) :
    Calls Try.prog 11 #[vl, .int .u8 a] w fun e w' => e = .returned (.bool true) ∧ Below w.heap.size w w' := by
  obtain ⟨Al, cl, L, rfl, hlc, hcm, hrl, hokl⟩ := recs_list hl
  obtain ⟨f, f'⟩ := bounds_u8 wa
  have hmx : maxLen ≤ 9223372036854775807 := by decide
  by_cases hn : 0 < L.length ∧ L.length ≤ 60
  · exact seenTurned_in w Al cl L a hrl (fun y hy => (hokl y hy).ok) ⟨by omega, by omega⟩ hn.1 hn.2
  · have C9 := Lib.hid awake18_any
    have hc8 : L.length ≤ 9223372036854775807 := by omega
    generalize L.length = n at *
    have B0 := Lib.hid (Below.refl w.heap.size w)
    clear hrl hokl hl hmx hcm
    by_cases h0 : n = 0
    · subst h0
      go_enter Try.func11, Try.ntmps11
      go_wp2_with fail
      refine (C9.out _).mono ?_; rintro e w2 ⟨rfl, b2⟩
      go_wp2
      go_ret
      exact ⟨rfl, b2⟩
    · have h1 : 60 < n := by omega
      have hz1 : ((n : Int) == 0) = false := by simp; omega
      have hz2 : decide (60 < (n : Int)) = true := by simp; omega
      go_enter Try.func11, Try.ntmps11
      go_wp2_with fail
      refine (C9.out _).mono ?_; rintro e w2 ⟨rfl, b2⟩
      go_wp2
      go_ret
      exact ⟨rfl, b2⟩
end Go.Proofs.Ytailbppddnegoaa
