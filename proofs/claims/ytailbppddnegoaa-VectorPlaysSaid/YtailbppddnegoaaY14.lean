/- Layer 17 (vector): the walk of the law VectorJoins. -/
import Derived.Test.YtailbppddnegoaaY13
import Derived.Test.YtailbppddnegoaaO8
namespace Go.Proofs.Ytailbppddnegoaa
open Go.RowKit
set_option linter.unusedVariables false
set_option maxRecDepth 100000
attribute [local go_sem ↓] Go.wp_at_zero Go.wp_at_succ

theorem same17_yes (W : World) (A A' : Option Addr) (c c' : Nat) (L : List Dt) (h : MsAt W A L) (h' : MsAt W A' L) (hn : L.length ≤ 9223372036854775807) :
    Calls Try.prog 22 #[.slice A L.length c, .slice A' L.length c'] W fun e w' => e = .returned (.bool true) ∧ Below W.heap.size W w' := by
  have := rsame17_any W W.heap.size W.heap.size A A' c c' L L h h' (Nat.le_refl _) (Nat.le_refl _) hn
  simpa using this
theorem Vw.len64 {M : List Dt} (h : Vw M) : M.length ≤ 9223372036854775807 := by have := h.len; omega
theorem cov_join {M O : List Dt} (h : Vw M) (k : Vw O) : rcov (rjoin M O) M = true ∧ rcov (rjoin M O) O = true := by
  refine ⟨(rcov_iff (h.join O) h).2 fun a => ?_, (rcov_iff (h.join O) k).2 fun a => ?_⟩
  all_goals
    rw [mget_join h k.1 k.ro]
    omega
theorem cov_meet {M O : List Dt} (h : Vw M) (k : Vw O) : rcov M (rmeet M O) = true ∧ rcov O (rmeet M O) = true := by
  refine ⟨(rcov_iff h h.meet).2 fun a => ?_, (rcov_iff k h.meet).2 fun a => ?_⟩
  all_goals
    rw [mget_meet h k]
    omega
set_option maxHeartbeats 2000000 in
theorem vectorJoins_law (w : World) {vl vm : Value} (hl : IsRecs 3 w vl) (hm : IsRecs 3 w vm) :
    Calls Try.prog 5 #[vl, vm] w fun e w' => e = .returned (.bool true) ∧ Below w.heap.size w w' := by
  obtain ⟨Al, cl, L, rfl, hlc, hcm, hrl, hokl⟩ := recs_list hl
  obtain ⟨Am, cm, L2, rfl, hlc2, hcm2, hrm, hokm⟩ := recs_list hm
  have hmx : maxLen ≤ 9223372036854775807 := by decide
  have C9 := Lib.hid awake17_any
  have CM1 := Lib.hid (fun W (h : MsAt W Al L) => made17_any W Al cl L h (by omega))
  have CM2 := Lib.hid (fun W (h : MsAt W Am L2) => made17_any W Am cm L2 h (by omega))
  have vM := Lib.hid (vw_made L)
  have vO := Lib.hid (vw_made L2)
  have H0 := Lib.hid (And.intro (show MsAt w Al L from hrl) (show MsAt w Am L2 from hrm))
  clear hl hm hrl hrm hokl hokm hmx
  generalize L.length = n at *
  generalize L2.length = n2 at *
  generalize rmade L = M at *
  generalize rmade L2 = O at *
  have CC := Lib.hid (fun W p (h : VecAt W p M) => vccopy_any W p M h)
  have CT := Lib.hid (fun W p q (h : VecAt W p M) (k : VecAt W q O) => vcmeet_any W p q M O h k)
  have CV := Lib.hid (fun W p q (X Y : List Dt) (h : VecAt W p X) (k : VecAt W q Y) => vccovers_any W p q X Y h k)
  have CJ := Lib.hid (fun W v b u b' (h : VecIs W v b M) (k : VecIs W u b' O) (hne : b' ≠ b) => vcjoin_in W v b u b' M O h k hne)
  have CK := Lib.hid (fun W p (X : List Dt) (h : VecAt W p X) => vcmarks_any W p X h)
  have CS := Lib.hid (fun W p (X : List Dt) (h : VecAt W p X) => vcsum_any W p X h)
  have DC := Lib.hid (fun W A A' c c' (h : MsAt W A M) (k : MsAt W A' O) => rcovers17_any W A A' c c' M O h k vM.out.len64 vO.out.len64)
  have DT := Lib.hid (fun W A A' c c' (h : MsAt W A M) (k : MsAt W A' O) => rmeet17_any W A A' c c' M O h k (by have := vM.out.len; omega) vO.out.len64)
  have DJ := Lib.hid (fun W A A' c c' (h : MsAt W A M) (k : MsAt W A' O) => rjoin17_any W A A' c c' M O h k vM.out vO.out.len64)
  have DS := Lib.hid (fun W A A' c c' (X : List Dt) (hv : Vw X) (h : MsAt W A X) (k : MsAt W A' X) => same17_yes W A A' c c' X h k hv.len64)
  generalize hN : w.heap.size = N at *
  go_enter Try.func5, Try.ntmps5
  go_wp2_with fail
  refine (CM1.out _ H0.out.1).mono ?_; rintro e w1 ⟨v, b, Ax, cx, rfl, hv1, hb1, hvi, hax, hkx, b1⟩
  have H1 := Lib.hid (And.intro hvi (And.intro hax b1))
  have h1n : w1.heap.size ≥ N := by have := b1.size; omega
  clear hv1 hb1 hvi hax hkx b1 CM1
  go_wp2_with fail
  refine (CM2.out _ (H0.out.2.up H1.out.2.2)).mono ?_; rintro e w2 ⟨u, b', Ay, cy, rfl, hv2, hb2, hui, hay, hky, b2⟩
  have hvb : v < w1.heap.size ∧ b < w1.heap.size := ⟨H1.out.1.ltv, H1.out.1.ltb⟩
  have hub : u < w2.heap.size ∧ b' < w2.heap.size := ⟨hui.ltv, hui.ltb⟩
  have h2n := b2.size
  have H2 := Lib.hid (And.intro (H1.out.1.up b2) (And.intro (H1.out.2.1.up b2) (And.intro hui (And.intro hay (H1.out.2.2.trans (below_of_le b2 (by omega)))))))
  clear hui hay hky b2 CM2 H1 H0
  go_wp2_with fail
  refine (CC.out _ _ H2.out.1.at_).mono ?_; rintro e w3 ⟨cv, cb, rfl, hv3, hb3, hci, b3⟩
  have h3n := b3.size
  have hcb : cv < w3.heap.size ∧ cb < w3.heap.size := ⟨hci.ltv, hci.ltb⟩
  have B3 := Lib.hid (And.intro hci b3)
  clear hci b3 CC
  go_wp2_with fail
  refine (CT.out _ _ _ (H2.out.1.up B3.out.2).at_ (H2.out.2.2.1.up B3.out.2).at_).mono ?_; rintro e w4 ⟨mv, mb, rfl, hv4, hb4, hmi, b4⟩
  have h4n := b4.size
  have B4 := Lib.hid (And.intro (B3.out.1.up b4) (And.intro hmi (B3.out.2.trans (below_of_le b4 h3n))))
  clear hmi b4 CT B3
  go_wp2_with fail
  refine (CV.out _ _ _ _ _ (H2.out.1.up B4.out.2.2).at_ (H2.out.2.2.1.up B4.out.2.2).at_).mono ?_; rintro e w5 ⟨rfl, b5⟩
  have h5n := b5.size
  have B5 := Lib.hid (And.intro (B4.out.1.up b5) (And.intro (B4.out.2.1.up b5) (B4.out.2.2.trans (below_of_le b5 (by omega)))))
  clear b5 B4
  go_wp2_with fail
  refine (CJ.out _ _ _ _ _ B5.out.1 (H2.out.2.2.1.up B5.out.2.2) (by omega)).mono ?_; rintro e w6 ⟨rfl, hci6, hc6⟩
  have h6n := hc6.size
  have b6 : Below w2.heap.size w2 w6 := B5.out.2.2.trans (hc6.below (fun k hk e => by have e' : k = cb := e; omega) (by omega))
  have F := Lib.hid (And.intro (H2.out.1.up b6) (And.intro (H2.out.2.1.up b6) (And.intro (H2.out.2.2.1.up b6) (And.intro (H2.out.2.2.2.1.up b6) (And.intro hci6 (And.intro (B5.out.2.1.ch hc6 (by omega) (by omega)) (H2.out.2.2.2.2.trans (below_of_le b6 (by omega)))))))))
  clear hci6 hc6 b6 B5 CJ H2
  have hms := Lib.hid (msum_le vM.out)
  have hlen : ∃ m, M.length = m := ⟨_, rfl⟩
  obtain ⟨m, hlen⟩ := hlen
  have HL := Lib.hid hlen
  have hm8 : m ≤ 67108928 := by have := vM.out.len; omega
  rw [hlen]
  clear hlen
  go_wp2_with fail
  go_loop [12, 13] (fun y i => ∃ (j : Nat), j ≤ m ∧ i = .int .i64 j ∧ y = .int .i64 (msum (M.take j))) (fun _ i => m - (intOf i).toNat)
  case atStart => exact ⟨0, by omega, rfl, rfl⟩
  case round =>
    obtain ⟨j, hj, rfl, rfl⟩ := hrel
    by_cases hlt : j < m
    · obtain ⟨x, hx⟩ : ∃ x, M[j]? = some x := ⟨M[j]'(by have := HL.out; omega), List.getElem?_eq_getElem _⟩
      obtain ⟨b0, o0, hA, hb0, k0, k1, k2⟩ := Ds.at_ F.out.2.1 hx
      have hrx := (rightD_iff x).1 (vM.out.2 x (List.mem_of_getElem? hx))
      have hm0 := hms.out j
      have htk := Lib.hid (show msum (M.take (j + 1)) = msum (M.take j) + x.2 by rw [List.take_add_one, hx]; exact msum_snoc _ _)
      obtain ⟨⟨d, i⟩, s⟩ := x
      simp only at k2 hrx htk
      generalize msum (M.take j) = t at *
      have hw1 : IntKind.i64.wrap (t + s) = t + s := by rw [IntKind.wrap_i64]; omega
      clear hx k0 k1
      subst hA
      go_wp2
      go_round
      case rel => exact ⟨j + 1, by omega, by go_num, by rw [htk.out]⟩
      case measure => simp [intOf]; omega
    · have hj' : j = m := by omega
      subst hj'
      have ht : M.take j = M := by rw [List.take_of_length_le (by have := HL.out; omega)]
      rw [ht, ← HL.out]
      clear ht hms HL hm8
      have C0 := Lib.hid (Below.refl w6.heap.size w6)
      go_wp2_with fail
      refine (DC.out _ _ _ _ _ (F.out.2.1.up C0.out) (F.out.2.2.2.1.up C0.out)).mono ?_; rintro e w7 ⟨rfl, b7⟩
      have C1 := Lib.hid (C0.out.trans (below_of_le b7 C0.out.size))
      clear b7 C0
      go_wp2_with fail
      refine (CK.out _ _ _ (F.out.2.2.2.2.2.1.up C1.out).at_).mono ?_; rintro e w8 ⟨A1, c1, rfl, o1, b8⟩
      have C2 := Lib.hid (C1.out.trans (below_of_le b8 C1.out.size))
      have M1 := Lib.hid (MsAt.own o1)
      clear o1
      clear b8 C1
      go_wp2_with fail
      refine (DT.out _ _ _ _ _ (F.out.2.1.up C2.out) (F.out.2.2.2.1.up C2.out)).mono ?_; rintro e w9 ⟨A2, c2, rfl, o2, b9⟩
      have C3 := Lib.hid (C2.out.trans (below_of_le b9 C2.out.size))
      have M2 := Lib.hid (And.intro (M1.out.up b9) (MsAt.own o2))
      clear o2 M1
      clear b9 C2
      go_wp2_with fail
      refine (DS.out _ _ _ _ _ _ vM.out.meet M2.out.1 M2.out.2).mono ?_; rintro e w10 ⟨rfl, b10⟩
      have C4 := Lib.hid (C3.out.trans (below_of_le b10 C3.out.size))
      clear b10 C3
      clear M2
      go_wp2_with fail
      refine (CK.out _ _ _ (F.out.2.2.2.2.1.up C4.out).at_).mono ?_; rintro e w11 ⟨A1, c1, rfl, o1, b11⟩
      have C5 := Lib.hid (C4.out.trans (below_of_le b11 C4.out.size))
      have M1 := Lib.hid (MsAt.own o1)
      clear o1
      clear b11 C4
      go_wp2_with fail
      refine (DJ.out _ _ _ _ _ (F.out.2.1.up C5.out) (F.out.2.2.2.1.up C5.out)).mono ?_; rintro e w12 ⟨A2, c2, rfl, o2, _, b12⟩
      have C6 := Lib.hid (C5.out.trans (below_of_le b12 C5.out.size))
      have M2 := Lib.hid (And.intro (M1.out.up b12) o2)
      clear o2 M1
      clear b12 C5
      go_wp2_with fail
      refine (DS.out _ _ _ _ _ _ (vM.out.join _) M2.out.1 M2.out.2).mono ?_; rintro e w13 ⟨rfl, b13⟩
      have C7 := Lib.hid (C6.out.trans (below_of_le b13 C6.out.size))
      clear b13 C6
      clear M2
      go_wp2_with fail
      refine (CS.out _ _ _ (F.out.1.up C7.out).at_).mono ?_; rintro e w14 ⟨rfl, b14⟩
      have C8 := Lib.hid (C7.out.trans (below_of_le b14 C7.out.size))
      clear b14 C7
      have hne : (msum M != msum M) = false := by simp
      have cj := cov_join vM.out vO.out
      have cm := cov_meet vM.out vO.out
      have v1 := CV
      have CVJ1 := Lib.hid (fun W p q (h : VecAt W p (rjoin M O)) (k : VecAt W q M) => (cj.1 ▸ CV.out W p q _ _ h k : Calls _ _ _ _ fun e w' => e = .returned (.bool true) ∧ _))
      have CVJ2 := Lib.hid (fun W p q (h : VecAt W p (rjoin M O)) (k : VecAt W q O) => (cj.2 ▸ CV.out W p q _ _ h k : Calls _ _ _ _ fun e w' => e = .returned (.bool true) ∧ _))
      have CVM1 := Lib.hid (fun W p q (h : VecAt W p M) (k : VecAt W q (rmeet M O)) => (cm.1 ▸ CV.out W p q _ _ h k : Calls _ _ _ _ fun e w' => e = .returned (.bool true) ∧ _))
      have CVM2 := Lib.hid (fun W p q (h : VecAt W p O) (k : VecAt W q (rmeet M O)) => (cm.2 ▸ CV.out W p q _ _ h k : Calls _ _ _ _ fun e w' => e = .returned (.bool true) ∧ _))
      clear cj cm v1 CV
      go_wp2_with fail
      refine (CVJ1.out _ _ _ (F.out.2.2.2.2.1.up C8.out).at_ (F.out.1.up C8.out).at_).mono ?_; rintro e w15 ⟨rfl, b15⟩
      have C9 := Lib.hid (C8.out.trans (below_of_le b15 C8.out.size))
      clear b15 C8
      go_wp2_with fail
      refine (CVJ2.out _ _ _ (F.out.2.2.2.2.1.up C9.out).at_ (F.out.2.2.1.up C9.out).at_).mono ?_; rintro e w16 ⟨rfl, b16⟩
      have C10 := Lib.hid (C9.out.trans (below_of_le b16 C9.out.size))
      clear b16 C9
      go_wp2_with fail
      refine (CVM1.out _ _ _ (F.out.1.up C10.out).at_ (F.out.2.2.2.2.2.1.up C10.out).at_).mono ?_; rintro e w17 ⟨rfl, b17⟩
      have C11 := Lib.hid (C10.out.trans (below_of_le b17 C10.out.size))
      clear b17 C10
      go_wp2_with fail
      refine (CVM2.out _ _ _ (F.out.2.2.1.up C11.out).at_ (F.out.2.2.2.2.2.1.up C11.out).at_).mono ?_; rintro e w18 ⟨rfl, b18⟩
      have C12 := Lib.hid (C11.out.trans (below_of_le b18 C11.out.size))
      clear b18 C11
      go_wp2_with fail
      refine (CK.out _ _ _ (F.out.1.up C12.out).at_).mono ?_; rintro e w19 ⟨A1, c1, rfl, o1, b19⟩
      have C13 := Lib.hid (C12.out.trans (below_of_le b19 C12.out.size))
      have M1 := Lib.hid (MsAt.own o1)
      clear o1
      clear b19 C12
      go_wp2_with fail
      refine (DS.out _ _ _ _ _ _ vM.out M1.out (F.out.2.1.up C13.out)).mono ?_; rintro e w20 ⟨rfl, b20⟩
      have C14 := Lib.hid (C13.out.trans (below_of_le b20 C13.out.size))
      clear b20 C13
      clear M1
      go_wp2_with fail
      refine (CK.out _ _ _ (F.out.2.2.1.up C14.out).at_).mono ?_; rintro e w21 ⟨A1, c1, rfl, o1, b21⟩
      have C15 := Lib.hid (C14.out.trans (below_of_le b21 C14.out.size))
      have M1 := Lib.hid (MsAt.own o1)
      clear o1
      clear b21 C14
      go_wp2_with fail
      refine (DS.out _ _ _ _ _ _ vO.out M1.out (F.out.2.2.2.1.up C15.out)).mono ?_; rintro e w22 ⟨rfl, b22⟩
      have C16 := Lib.hid (C15.out.trans (below_of_le b22 C15.out.size))
      clear b22 C15
      clear M1
      go_wp2_with fail
      refine (C9.out _).mono ?_; rintro e w23 ⟨rfl, b23⟩
      have C17 := Lib.hid (C16.out.trans (below_of_le b23 C16.out.size))
      clear b23 C16
      have HF := Lib.hid (show Below N w w23 from (hN ▸ F.out.2.2.2.2.2.2 : Below N w w6).trans (below_of_le C17.out (by omega)))
      clear C17
      go_wp2
      go_ret
      exact ⟨rfl, HF.out⟩
end Go.Proofs.Ytailbppddnegoaa
