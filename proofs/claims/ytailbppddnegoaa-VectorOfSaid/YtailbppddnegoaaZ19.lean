/- Layer 17 (vector): Get of marks that were packed; Put of marks that may not be. -/
import Derived.Test.YtailbppddnegoaaZ16
import Derived.Test.YtailbppddnegoaaD11
namespace Go.Proofs.Ytailbppddnegoaa
open Go.RowKit
set_option linter.unusedVariables false
set_option maxRecDepth 100000
attribute [local go_sem ↓] Go.wp_at_zero Go.wp_at_succ

theorem vcput_no (w : World) (b : Nat) (Am : Option Addr) (cm : Nat) (L : List Dt) (hm : MsAt w Am L) (hn : L.length ≤ 9223372036854775807) (hc : chkE L ≠ 0) :
    Calls Try.prog 75 #[.pointer (some ⟨b, 0, none⟩), .slice Am L.length cm] w fun e w' => e = .returned (.int .i64 (chkE L)) ∧ Below w.heap.size w w' := by
  have C0 := Lib.hid (vccheck_any w Am cm L hm hn)
  generalize chkE L = r at *
  generalize L.length = n at *
  have hb : (r != 0) = true := by simpa using hc
  clear hm hn
  go_enter Try.func75, Try.ntmps75
  go_wp2_with fail
  refine (C0.out).mono ?_; rintro e w1 ⟨rfl, b1⟩
  go_wp2
  go_ret
  exact ⟨rfl, b1⟩
theorem Re.far {w w' : World} {b n c N : Nat} {A : Option Addr} {l : List UInt8} {er : Int} (h : Re w b A n c l er) (hb : Below N w w') (hN : b < N) : Re w' b A n c l er :=
  ⟨h.1.below hb hN, h.2.1.below (hb.mono (by omega)), h.2.2⟩
theorem Ch.belowN {S : Nat → Prop} {w w1 w2 : World} {N : Nat} (h : Ch S w w1) (b : Below N w1 w2) (hN : w.heap.size ≤ N) : Ch S w w2 :=
  h.trans (show Ch (fun k => N ≤ k) w1 w2 from ⟨b.os, b.tape, b.output, b.size, fun k _ hk => b.block k (by omega)⟩) (fun k hk hs => by omega)
theorem dsP_drop {L : List Dt} {j : Nat} {x : Dt} (hx : L[j]? = some x) : dsP (L.drop j) = dP x ++ dsP (L.drop (j + 1)) := by
  have : L.drop j = x :: L.drop (j + 1) := by
    have hlt : j < L.length := (List.getElem?_eq_some_iff.1 hx).1
    rw [List.drop_eq_getElem_cons hlt]
    rw [(List.getElem?_eq_some_iff.1 hx).2]
  rw [this]
  simp [dsP]
/-- What vector.Get leaves. -/
def GetE (w : World) (b : Nat) (L : List Dt) (R : List UInt8) (e : Ending) (w' : World) : Prop :=
  ∃ A' c' A n c, e = .returned (.slice A' L.length c') ∧ MsAt w' A' L ∧ (∀ k, bl A' = some k → w.heap.size ≤ k) ∧ Re w' b A n c R 0 ∧ Ch (fun k => k = b) w w'
set_option maxHeartbeats 4000000 in
theorem vcget_put (w : World) (b : Nat) (A : Option Addr) (n0 c : Nat) (L : List Dt) (R : List UInt8) (h : Re w b A n0 c (nP L ++ R) 0) (hv : Vw L) (hl : L.length ≤ 1000) :
    Calls Try.prog 79 #[.pointer (some ⟨b, 0, none⟩)] w (GetE w b L R) := by
  have hnP : nP L ++ R = vput L.length ++ (dsP L ++ R) := by unfold nP; rw [List.append_assoc]
  rw [hnP] at h
  have CN := Lib.hid (rnum_any w b A n0 c (vput L.length ++ (dsP L ++ R)) 0 4096 h)
  rw [rnumR_putx _ (by omega) (by omega)] at CN
  have CE := Lib.hid (fun (W : World) (A : Option Addr) (n c : Nat) (l : List UInt8) (h : Re W b A n c l 0) => rerr_any W b A n c l 0 h)
  have CD := Lib.hid (fun (x : Dt) (hq : dotB x.1.1 x.1.2 x.2 = true) (R : List UInt8) (W : World) (A : Option Addr) (n c : Nat) (h : Re W b A n c (dP x ++ R) 0) => dget_put x.1.1 x.1.2 x.2 hq R W b A n c h)
  have CC := Lib.hid (fun (W : World) (A : Option Addr) (c : Nat) (h : MsAt W A L) => vccheck_any W A c L h (by omega))
  rw [hv.chk (by omega)] at CC
  have hbN := h.1.lt
  have HV := Lib.hid hv
  generalize hlen : L.length = n at *
  have HLn := Lib.hid hlen
  generalize hN : w.heap.size = N at *
  unfold dotV at CD
  clear h hnP hlen hv
  go_enter Try.func79, Try.ntmps79
  go_wp2_with fail
  refine (CN.out).mono ?_; rintro e w1 ⟨A1, n1, c1, rfl, hR1, ch1⟩
  have hz1 : N ≤ w1.heap.size := by have := ch1.size; omega
  have H1 := Lib.hid (And.intro hR1 ch1)
  clear hR1 ch1 CN
  go_wp2_with fail
  go_loopw [3, 4] (fun y i wr => ∃ (j : Nat) (A3 : Option Addr) (c3 : Nat) (A2 : Option Addr) (n2 c2 : Nat), j ≤ n ∧ i = .int .u64 ((n - j : Nat) : Int) ∧ y = .slice A3 j c3 ∧ Own wr N 33 3 A3 j c3 (dts (L.take j)) ∧ Re wr b A2 n2 c2 (dsP (L.drop j) ++ R) 0 ∧ Ch (fun k => k = b) w wr ∧ N ≤ wr.heap.size) (fun _ i _ => (intOf i).toNat)
  case atStart => exact ⟨0, none, 0, A1, n1, c1, by omega, rfl, rfl, Own.nil_, H1.out.1, H1.out.2, hz1⟩
  case round =>
    obtain ⟨j, A3, c3, A2, n2, c2, hj, rfl, rfl, hO, hR, hC, hz⟩ := hrel
    have HI := Lib.hid (And.intro hO (And.intro hR hC))
    clear hO hR hC H1
    by_cases hlt : j < n
    · obtain ⟨x, hx⟩ : ∃ x, L[j]? = some x := ⟨L[j]'(by have := HLn.out; omega), List.getElem?_eq_getElem _⟩
      obtain ⟨m, hm⟩ : ∃ m, n - j = m + 1 := ⟨n - j - 1, by omega⟩
      rw [hm]
      have hdr := dsP_drop hx
      have hRe := HI.out.2.1
      rw [hdr, List.append_assoc] at hRe
      have HRe := Lib.hid hRe
      have CX := Lib.hid (CD.out x (HV.out.2 x (List.mem_of_getElem? hx)) (dsP (L.drop (j + 1)) ++ R))
      have htk := Lib.hid (show L.take (j + 1) = L.take j ++ [x] by rw [List.take_add_one, hx]; rfl)
      have hlj := Lib.hid (show (L.take j).length = j by rw [List.length_take]; have := HLn.out; omega)
      obtain ⟨⟨d, i⟩, q⟩ := x
      simp only at CX
      clear hx hdr hRe
      have hm1 : (0 : Int) < ((m + 1 : Nat) : Int) := by omega
      go_wp2_with fail
      refine (CE.out _ _ _ _ _ HRe.out).mono ?_; rintro e w5 ⟨rfl, rfl⟩
      go_wp2_with fail
      refine (CX.out _ _ _ _ HRe.out).mono ?_; rintro e w6 ⟨A6, n6, c6, rfl, hR6, ch6⟩
      have hz6 : N ≤ w6.heap.size := Nat.le_trans hz ch6.size
      have hO6 : Own w6 N 33 3 A3 j c3 (dts (L.take j)) := HI.out.1.ch ch6 (fun g _ _ hg e => by have := HI.out.1.bl_lo g hg; omega)
      have hb7 : Below N w6 (w6.alloc (.cells #[.int .i64 d, .int .i64 i, .int .i64 q] 27)) := (Below.refl N w6).alloc hz6 _
      have hO7 := hO6.alloc (.cells #[.int .i64 d, .int .i64 i, .int .i64 q] 27)
      have h7 := Lib.hid (C3.new w6 d i q 27)
      obtain ⟨A8, c8, w8, q8, o8, ch8, b8⟩ := app1 (w6.alloc (.cells #[.int .i64 d, .int .i64 i, .int .i64 q] 27)) N A3 j c3 (L.take j) hlj.out hO7 ((d, i), q) (by omega) (by simp; omega)
      have hbl := hb7.trans b8
      have HF := Lib.hid (And.intro o8 (And.intro (hR6.far hbl (by omega)) (And.intro (Ch.belowN (HI.out.2.2.trans ch6 (fun k _ h => h)) hbl (by omega)) (Nat.le_trans hz6 hbl.size))))
      rw [show (w6.alloc (.cells #[.int .i64 d, .int .i64 i, .int .i64 q] 27)).heap.size = w6.heap.size + 1 by simp] at q8
      have Q8 := Lib.hid q8
      clear hO6 hb7 hO7 o8 ch8 b8 hbl hR6 ch6 q8
      obtain ⟨k0, k1, k2⟩ := h7.out
      have hm2 : n - (j + 1) = m := by omega
      have HM2 := Lib.hid hm2
      clear hm2
      have hm3 : m < 18446744073709551615 := by omega
      go_wp2_with (at_builtin; refine wpList_want (by rfl) (fun K hK => wp_append_runs _ _ _ _ _ rfl _ _ rfl rfl _ _ Q8.out (hK _ _ ?_)))
      go_wp2
      go_roundw
      case rel =>
        exact ⟨j + 1, A8, c8, A6, n6, c6, by omega, by rw [HM2.out], rfl, by rw [htk.out]; exact HF.out.1, HF.out.2.1, HF.out.2.2.1, HF.out.2.2.2⟩
      case measure => simp only [intOf]; omega
    · have hj' : n = j := by omega
      subst hj'
      have hO := HI.out.1
      have hR := HI.out.2.1
      have hz0 : n - n = 0 := by omega
      rw [List.take_of_length_le (by have := HLn.out; omega)] at hO
      rw [List.drop_of_length_le (by have := HLn.out; omega)] at hR
      have hM : MsAt wr A3 L := MsAt.own (by rw [HLn.out]; exact hO)
      have HE := Lib.hid (And.intro hM (And.intro (show Re wr b A2 n2 c2 R 0 from by simpa [dsP] using hR) (show ∀ k, bl A3 = some k → N ≤ k from fun k hk => hO.bl_lo k hk)))
      clear hO hR hM
      rw [hz0]
      go_wp2_with fail
      refine (CE.out _ _ _ _ _ HE.out.2.1).mono ?_; rintro e w5 ⟨rfl, rfl⟩
      go_wp2_with fail
      refine (CC.out _ _ _ HE.out.1).mono ?_; rintro e w6 ⟨rfl, b6⟩
      have HG := Lib.hid (And.intro (HE.out.1.up b6) (And.intro (HE.out.2.1.far b6 (by omega)) (Ch.belowN HI.out.2.2 b6 (by omega))))
      clear b6
      go_wp2_with fail
      refine (CE.out _ _ _ _ _ HG.out.2.1).mono ?_; rintro e w7 ⟨rfl, rfl⟩
      have HX := Lib.hid (show GetE w b L R (.returned (.slice A3 n c3)) w6 from ⟨A3, c3, A2, n2, c2, by rw [HLn.out], HG.out.1, by rw [hN]; exact HE.out.2.2, HG.out.2.1, HG.out.2.2⟩)
      go_wp2
      go_ret
      exact HX.out
end Go.Proofs.Ytailbppddnegoaa
