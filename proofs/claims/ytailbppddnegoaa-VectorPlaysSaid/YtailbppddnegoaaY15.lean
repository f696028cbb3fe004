/- Layer 17 (vector): the walk of the law VectorLeast. -/
import Derived.Test.YtailbppddnegoaaY14
namespace Go.Proofs.Ytailbppddnegoaa
open Go.RowKit
set_option linter.unusedVariables false
set_option maxRecDepth 100000
attribute [local go_sem ↓] Go.wp_at_zero Go.wp_at_succ

theorem cov_both {M O T : List Dt} (hM : Vw M) (hO : Vw O) (hT : Vw T) (h1 : rcov T M = true) (h2 : rcov T O = true) : rcov T (rjoin M O) = true := by
  rw [rcov_iff hT hM] at h1
  rw [rcov_iff hT hO] at h2
  refine (rcov_iff hT (hM.join O)).2 fun a => ?_
  have := h1 a
  have := h2 a
  rw [mget_join hM hO.1 hO.ro]
  omega
theorem cov_least {M O T : List Dt} (hM : Vw M) (hO : Vw O) (hT : Vw T) (h1 : rcov M T = true) (h2 : rcov O T = true) : rcov (rmeet M O) T = true := by
  rw [rcov_iff hM hT] at h1
  rw [rcov_iff hO hT] at h2
  refine (rcov_iff hM.meet hT).2 fun a => ?_
  have := h1 a
  have := h2 a
  rw [mget_meet hM hO]
  omega
set_option maxHeartbeats 2000000 in
theorem vectorLeast_law (w : World) {vl vm vn : Value} (hl : IsRecs 3 w vl) (hm : IsRecs 3 w vm) (hn : IsRecs 3 w vn) :
    Calls Try.prog 6 #[vl, vm, vn] w fun e w' => e = .returned (.bool true) ∧ Below w.heap.size w w' := by
  obtain ⟨Al, cl, L, rfl, hlc, hcm, hrl, hokl⟩ := recs_list hl
  obtain ⟨Am, cm, L2, rfl, hlc2, hcm2, hrm, hokm⟩ := recs_list hm
  obtain ⟨An, cn, L3, rfl, hlc3, hcm3, hrn, hokn⟩ := recs_list hn
  have hmx : maxLen ≤ 9223372036854775807 := by decide
  have C9 := Lib.hid awake17_any
  have CM1 := Lib.hid (fun W (h : MsAt W Al L) => made17_any W Al cl L h (by omega))
  have CM2 := Lib.hid (fun W (h : MsAt W Am L2) => made17_any W Am cm L2 h (by omega))
  have CM3 := Lib.hid (fun W (h : MsAt W An L3) => made17_any W An cn L3 h (by omega))
  have vM := Lib.hid (vw_made L)
  have vO := Lib.hid (vw_made L2)
  have vT := Lib.hid (vw_made L3)
  have H0 := Lib.hid (And.intro (show MsAt w Al L from hrl) (And.intro (show MsAt w Am L2 from hrm) (show MsAt w An L3 from hrn)))
  clear hl hm hn hrl hrm hrn hokl hokm hokn hmx
  generalize L.length = n at *
  generalize L2.length = n2 at *
  generalize L3.length = n3 at *
  generalize rmade L = M at *
  generalize rmade L2 = O at *
  generalize rmade L3 = T at *
  have CC := Lib.hid (fun W p (h : VecAt W p M) => vccopy_any W p M h)
  have CT := Lib.hid (fun W p q (h : VecAt W p M) (k : VecAt W q O) => vcmeet_any W p q M O h k)
  have CV := Lib.hid (fun W p q (X Y : List Dt) (h : VecAt W p X) (k : VecAt W q Y) => vccovers_any W p q X Y h k)
  have CJ := Lib.hid (fun W v b u b' (h : VecIs W v b M) (k : VecIs W u b' O) (hne : b' ≠ b) => vcjoin_in W v b u b' M O h k hne)
  generalize hN : w.heap.size = N at *
  go_enter Try.func6, Try.ntmps6
  go_wp2_with fail
  refine (CM1.out _ H0.out.1).mono ?_; rintro e w1 ⟨v, b, Ax, cx, rfl, hv1, hb1, hvi, hax, hkx, b1⟩
  have H1 := Lib.hid (And.intro hvi b1)
  have h1n : w1.heap.size ≥ N := by have := b1.size; omega
  clear hv1 hb1 hvi hax hkx b1 CM1
  go_wp2_with fail
  refine (CM2.out _ (H0.out.2.1.up H1.out.2)).mono ?_; rintro e w2 ⟨u, b', Ay, cy, rfl, hv2, hb2, hui, hay, hky, b2⟩
  have h2n := b2.size
  have H2 := Lib.hid (And.intro (H1.out.1.up b2) (And.intro hui (H1.out.2.trans (below_of_le b2 (by omega)))))
  clear hui hay hky b2 CM2 H1
  go_wp2_with fail
  refine (CM3.out _ (H0.out.2.2.up H2.out.2.2)).mono ?_; rintro e w3 ⟨t, b3', Az, cz, rfl, hv3, hb3, hti, haz, hkz, b3⟩
  have h3n := b3.size
  have H3 := Lib.hid (And.intro (H2.out.1.up b3) (And.intro (H2.out.2.1.up b3) (And.intro hti (H2.out.2.2.trans (below_of_le b3 (by omega))))))
  have hub : u < w3.heap.size ∧ b' < w3.heap.size := ⟨H3.out.2.1.ltv, H3.out.2.1.ltb⟩
  clear hti haz hkz b3 CM3 H2 H0
  go_wp2_with fail
  refine (CC.out _ _ H3.out.1.at_).mono ?_; rintro e w4 ⟨cv, cb, rfl, hv4, hb4, hci, b4⟩
  have h4n := b4.size
  have B4 := Lib.hid (And.intro hci b4)
  clear hci b4 CC
  go_wp2_with fail
  refine (CJ.out _ _ _ _ _ B4.out.1 (H3.out.2.1.up B4.out.2) (by omega)).mono ?_; rintro e w6 ⟨rfl, hci6, hc6⟩
  have h6n := hc6.size
  have b6 : Below w3.heap.size w3 w6 := B4.out.2.trans (hc6.below (fun k hk e => by have e' : k = cb := e; omega) (by omega))
  have F := Lib.hid (And.intro (H3.out.1.up b6) (And.intro (H3.out.2.1.up b6) (And.intro (H3.out.2.2.1.up b6) (And.intro hci6 (H3.out.2.2.2.trans (below_of_le b6 (by omega)))))))
  clear hci6 hc6 b6 B4 CJ H3
  have C0 := Lib.hid (Below.refl w6.heap.size w6)
  go_upto_region 6 with fail
  go_cut [47] from 34 to 47 (fun c wx => c = .bool false ∧ Below w6.heap.size w6 wx)
  case first =>
    have K1 := Lib.hid (fun W p q h k => CV.out W p q T M h k)
    have K2 := Lib.hid (fun W p q h k => CV.out W p q T O h k)
    have K3 := Lib.hid (fun W p q h k => CV.out W p q T (rjoin M O) h k)
    have hpure := cov_both vM.out vO.out vT.out
    cases h1 : rcov T M
    · rw [h1] at K1
      clear h1 hpure
      go_wp2_with fail
      refine (K1.out _ _ _ F.out.2.2.1.at_ F.out.1.at_).mono ?_; rintro e w7 ⟨rfl, b7⟩
      go_wp2
      go_meet
      exact ⟨rfl, b7⟩
    · cases h2 : rcov T O
      · rw [h1] at K1
        rw [h2] at K2
        clear h1 h2 hpure
        go_wp2_with fail
        refine (K1.out _ _ _ F.out.2.2.1.at_ F.out.1.at_).mono ?_; rintro e w7 ⟨rfl, b7⟩
        have C1 := Lib.hid b7
        clear b7
        go_wp2_with fail
        refine (K2.out _ _ _ (F.out.2.2.1.up C1.out).at_ (F.out.2.1.up C1.out).at_).mono ?_; rintro e w8 ⟨rfl, b8⟩
        have C2 := Lib.hid (C1.out.trans (below_of_le b8 C1.out.size))
        clear b8
        go_wp2
        go_meet
        exact ⟨rfl, C2.out⟩
      · have h3 := hpure h1 h2
        rw [h1] at K1
        rw [h2] at K2
        rw [h3] at K3
        clear h1 h2 h3 hpure
        go_wp2_with fail
        refine (K1.out _ _ _ F.out.2.2.1.at_ F.out.1.at_).mono ?_; rintro e w7 ⟨rfl, b7⟩
        have C1 := Lib.hid b7
        clear b7
        go_wp2_with fail
        refine (K2.out _ _ _ (F.out.2.2.1.up C1.out).at_ (F.out.2.1.up C1.out).at_).mono ?_; rintro e w8 ⟨rfl, b8⟩
        have C2 := Lib.hid (C1.out.trans (below_of_le b8 C1.out.size))
        clear b8
        go_wp2_with fail
        refine (K3.out _ _ _ (F.out.2.2.1.up C2.out).at_ (F.out.2.2.2.1.up C2.out).at_).mono ?_; rintro e w9 ⟨rfl, b9⟩
        have C3 := Lib.hid (C2.out.trans (below_of_le b9 C2.out.size))
        clear b9
        go_wp2
        go_meet
        exact ⟨rfl, C3.out⟩
  case rest =>
    obtain ⟨rfl, hbc⟩ := hcut
    have C1 := Lib.hid hbc
    clear hbc C0
    have K1 := Lib.hid (fun W p q h k => CV.out W p q M T h k)
    have K2 := Lib.hid (fun W p q h k => CV.out W p q O T h k)
    have K3 := Lib.hid (fun W p q h k => CV.out W p q (rmeet M O) T h k)
    have hpure := cov_least vM.out vO.out vT.out
    cases h1 : rcov M T
    · rw [h1] at K1
      clear h1 hpure
      go_wp2_with fail
      refine (K1.out _ _ _ (F.out.1.up C1.out).at_ (F.out.2.2.1.up C1.out).at_).mono ?_; rintro e w7 ⟨rfl, b7⟩
      have C2 := Lib.hid (C1.out.trans (below_of_le b7 C1.out.size))
      clear b7
      go_wp2_with fail
      refine (C9.out _).mono ?_; rintro e w8 ⟨rfl, b8⟩
      have C3 := Lib.hid (C2.out.trans (below_of_le b8 C2.out.size))
      clear b8
      go_wp2
      go_ret
      exact ⟨rfl, (hN ▸ F.out.2.2.2.2 : Below N w w6).trans (below_of_le C3.out (by omega))⟩
    · cases h2 : rcov O T
      · rw [h1] at K1
        rw [h2] at K2
        clear h1 h2 hpure
        go_wp2_with fail
        refine (K1.out _ _ _ (F.out.1.up C1.out).at_ (F.out.2.2.1.up C1.out).at_).mono ?_; rintro e w7 ⟨rfl, b7⟩
        have C2 := Lib.hid (C1.out.trans (below_of_le b7 C1.out.size))
        clear b7
        go_wp2_with fail
        refine (K2.out _ _ _ (F.out.2.1.up C2.out).at_ (F.out.2.2.1.up C2.out).at_).mono ?_; rintro e w8 ⟨rfl, b8⟩
        have C3 := Lib.hid (C2.out.trans (below_of_le b8 C2.out.size))
        clear b8
        go_wp2_with fail
        refine (C9.out _).mono ?_; rintro e w9 ⟨rfl, b9⟩
        have C4 := Lib.hid (C3.out.trans (below_of_le b9 C3.out.size))
        clear b9
        go_wp2
        go_ret
        exact ⟨rfl, (hN ▸ F.out.2.2.2.2 : Below N w w6).trans (below_of_le C4.out (by omega))⟩
      · have h3 := hpure h1 h2
        rw [h1] at K1
        rw [h2] at K2
        rw [h3] at K3
        clear h1 h2 h3 hpure
        go_wp2_with fail
        refine (K1.out _ _ _ (F.out.1.up C1.out).at_ (F.out.2.2.1.up C1.out).at_).mono ?_; rintro e w7 ⟨rfl, b7⟩
        have C2 := Lib.hid (C1.out.trans (below_of_le b7 C1.out.size))
        clear b7
        go_wp2_with fail
        refine (K2.out _ _ _ (F.out.2.1.up C2.out).at_ (F.out.2.2.1.up C2.out).at_).mono ?_; rintro e w8 ⟨rfl, b8⟩
        have C3 := Lib.hid (C2.out.trans (below_of_le b8 C2.out.size))
        clear b8
        go_wp2_with fail
        refine (CT.out _ _ _ (F.out.1.up C3.out).at_ (F.out.2.1.up C3.out).at_).mono ?_; rintro e w9 ⟨mv, mb, rfl, hv9, hb9, hmi, b9⟩
        have C4 := Lib.hid (And.intro hmi (C3.out.trans (below_of_le b9 C3.out.size)))
        clear b9 hmi
        go_wp2_with fail
        refine (K3.out _ _ _ C4.out.1.at_ (F.out.2.2.1.up C4.out.2).at_).mono ?_; rintro e w10 ⟨rfl, b10⟩
        have C5 := Lib.hid (C4.out.2.trans (below_of_le b10 C4.out.2.size))
        clear b10
        go_wp2_with fail
        refine (C9.out _).mono ?_; rintro e w11 ⟨rfl, b11⟩
        have C6 := Lib.hid (C5.out.trans (below_of_le b11 C5.out.size))
        clear b11
        go_wp2
        go_ret
        exact ⟨rfl, (hN ▸ F.out.2.2.2.2 : Below N w w6).trans (below_of_le C6.out (by omega))⟩
end Go.Proofs.Ytailbppddnegoaa
