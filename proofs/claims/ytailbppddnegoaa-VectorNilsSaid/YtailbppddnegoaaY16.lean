/- Layer 17 (vector): the walk of the law VectorNils. -/
import Derived.Test.YtailbppddnegoaaY15
import Derived.Test.YtailbppddnegoaaO5
namespace Go.Proofs.Ytailbppddnegoaa
open Go.RowKit
set_option linter.unusedVariables false
set_option maxRecDepth 100000
attribute [local go_sem ↓] Go.wp_at_zero Go.wp_at_succ

theorem mget_nil (a : Ac) : mget ([] : List Dt) a = 0 := rfl
theorem vhas_nil (x : Dt) : vhasB [] x = false := by
  unfold vhasB
  rw [mget_nil]
  cases h : rightD x
  · rfl
  · have := (rightD_iff x).1 h
    rw [Bool.true_and]
    exact decide_eq_false (by omega)
theorem rcov_nil_r (M : List Dt) : rcov M [] = true := rfl
theorem rcov_nil_l {M : List Dt} (h : Vw M) : rcov [] M = decide (M.length = 0) := by
  cases M with
  | nil => rfl
  | cons x r =>
    have := (rightD_iff x).1 (h.2 x (List.mem_cons_self ..))
    have h1 : decide (x.2 ≤ mget ([] : List Dt) x.1) = false := decide_eq_false (by rw [mget_nil]; omega)
    have h2 : decide ((x :: r).length = 0) = false := decide_eq_false (by simp)
    rw [h2]
    unfold rcov
    rw [List.all_cons, h1]
    rfl
theorem rmeet_nil_l (M : List Dt) : rmeet [] M = [] := rfl
theorem rmeet_nil_r (M : List Dt) : rmeet M [] = [] := by
  unfold rmeet
  rw [List.filterMap_eq_nil_iff]
  intro x _
  rw [mget_nil, if_neg (by omega)]
theorem C3.lt {N : Nat} {d i s : Int} {W : World} (h : C3 N d i s W) : N < W.heap.size := World.block_lt_of_cell? W _ h.1
set_option maxHeartbeats 2000000 in
theorem vectorNils_law (w : World) {vl vd : Value} (hl : IsRecs 3 w vl) (hd : IsDot vd) :
    Calls Try.prog 7 #[vl, vd] w fun e w' => e = .returned (.bool true) ∧ Below w.heap.size w w' := by
  obtain ⟨Al, cl, L, rfl, hlc, hcm, hrl, hokl⟩ := recs_list hl
  obtain ⟨d, i, s, rfl, hd1, hd2, hd3⟩ := hd
  have hmx : maxLen ≤ 9223372036854775807 := by decide
  have C9 := Lib.hid awake17_any
  have CM1 := Lib.hid (fun W (h : MsAt W Al L) => made17_any W Al cl L h (by omega))
  have vM := Lib.hid (vw_made L)
  have B0 := (Below.refl w.heap.size w).alloc (Nat.le_refl _) (.cells #[.int .i64 d, .int .i64 i, .int .i64 s] 27)
  have H0 := Lib.hid (And.intro ((show MsAt w Al L from hrl).up B0) (And.intro (C3.new w d i s 27) B0))
  clear hl hrl hokl hmx B0
  generalize L.length = n at *
  generalize rmade L = M at *
  have CJ1 := Lib.hid (fun W u b (h : VecIs W u b M) => vcjoin_vnil W u b M h)
  have CJ2 := Lib.hid (fun W p => vcjoin_onil W p)
  have CG := Lib.hid (fun W => vcget_nil (d, i) W)
  have CH := Lib.hid (fun W => vchas_any ((d, i), s) W none [] (VecAt.nil W))
  rw [vhas_nil] at CH
  have CR := Lib.hid (fun W => vcraise_nil (d, i) s W)
  have CT := Lib.hid (fun W => vctake_nil ((d, i), s) W)
  have CK0 := Lib.hid (fun W p (h : VecAt W p []) => vcmarks_any W p [] h)
  have CKM := Lib.hid (fun W p (h : VecAt W p M) => vcmarks_any W p M h)
  have CS := Lib.hid (fun W => vcsum_any W none [] (VecAt.nil W))
  have CT1 := Lib.hid (fun W q (k : VecAt W q M) => vcmeet_any W none q [] M (VecAt.nil W) k)
  rw [rmeet_nil_l] at CT1
  have CT2 := Lib.hid (fun W p (h : VecAt W p M) => vcmeet_any W p none M [] h (VecAt.nil W))
  rw [rmeet_nil_r] at CT2
  have CC := Lib.hid (fun W => vccopy_any W none [] (VecAt.nil W))
  have CV1 := Lib.hid (fun W p (h : VecAt W p M) => vccovers_any W p none M [] h (VecAt.nil W))
  rw [rcov_nil_r] at CV1
  have CV2 := Lib.hid (fun W q (k : VecAt W q M) => vccovers_any W none q [] M (VecAt.nil W) k)
  rw [rcov_nil_l vM.out] at CV2
  have DS := Lib.hid (fun W A A' c c' (h : MsAt W A M) (k : MsAt W A' M) => same17_yes W A A' c c' M h k vM.out.len64)
  have hl8 := vM.out.len
  have hz : ([] : List Dt).length = 0 := rfl
  have hms0 : msum [] = 0 := rfl
  rw [hms0] at CS
  have hcase : (M.length = 0 ∧ decide (M.length = 0) = true ∧ ((M.length : Int) == 0) = true) ∨ (M.length ≠ 0 ∧ decide (M.length = 0) = false ∧ ((M.length : Int) == 0) = false) := by
    by_cases h : M.length = 0
    · exact .inl ⟨h, decide_eq_true h, by simp [h]⟩
    · exact .inr ⟨h, decide_eq_false h, by rw [beq_eq_false_iff_ne]; omega⟩
  generalize hN : w.heap.size = N at *
  unfold dotV
  unfold acV at CG CR
  unfold dtV at CH CT
  clear hz hms0 hd1 hd2 hd3
  rcases hcase with ⟨hm0, hm1, hm2⟩ | ⟨hm0, hm1, hm2⟩
  all_goals
    rw [hm1] at CV2
    have HQ := Lib.hid (And.intro hm0 hm2)
    clear hm0 hm1 hm2
    go_enter Try.func7, Try.ntmps7
    go_wp2_with fail
    generalize (w.alloc (.cells #[.int .i64 d, .int .i64 i, .int .i64 s] 27)) = W0 at *
    refine (CM1.out _ H0.out.1).mono ?_; rintro e w1 ⟨u, b, Ax, cx, rfl, hv1, hb1, hui, hax, hkx, b1⟩
    have F := Lib.hid (And.intro hui (And.intro hax (And.intro (H0.out.2.1.up H0.out.2.1.lt b1) (H0.out.2.2.trans (below_of_le b1 (by have := H0.out.2.1.lt; omega))))))
    have C0 := Lib.hid (Below.refl w1.heap.size w1)
    clear hui hax hkx b1 CM1 hv1 hb1 H0
    go_wp2_with fail
    refine (CJ1.out _ _ _ (F.out.1.up C0.out)).mono ?_; rintro e w2 ⟨rfl, b2⟩
    have C1 := Lib.hid (C0.out.trans (below_of_le b2 C0.out.size))
    clear b2 C0
    obtain ⟨k0, k1, k2⟩ := F.out.2.2.1.up F.out.2.2.1.lt C1.out
    go_wp2_with fail
    refine (CJ2.out _ _).mono ?_; rintro e w3 ⟨rfl, b3⟩
    have C2 := Lib.hid (C1.out.trans (below_of_le b3 C1.out.size))
    clear b3 C1 k0 k1 k2
    obtain ⟨k0, k1, k2⟩ := F.out.2.2.1.up F.out.2.2.1.lt C2.out
    go_wp2_with fail
    refine (CG.out _).mono ?_; rintro e w4 ⟨rfl, b4⟩
    have C3 := Lib.hid (C2.out.trans (below_of_le b4 C2.out.size))
    clear b4 C2 k0 k1 k2
    obtain ⟨k0, k1, k2⟩ := F.out.2.2.1.up F.out.2.2.1.lt C3.out
    go_wp2_with fail
    refine (CH.out _).mono ?_; rintro e w5 ⟨rfl, b5⟩
    have C4 := Lib.hid (C3.out.trans (below_of_le b5 C3.out.size))
    clear b5 C3 k0 k1 k2
    obtain ⟨k0, k1, k2⟩ := F.out.2.2.1.up F.out.2.2.1.lt C4.out
    go_wp2_with fail
    refine (CR.out _).mono ?_; rintro e w6 ⟨rfl, b6⟩
    have C5 := Lib.hid (C4.out.trans (below_of_le b6 C4.out.size))
    clear b6 C4 k0 k1 k2
    obtain ⟨k0, k1, k2⟩ := F.out.2.2.1.up F.out.2.2.1.lt C5.out
    go_wp2_with fail
    refine (CT.out _).mono ?_; rintro e w7 ⟨rfl, b7⟩
    have C6 := Lib.hid (C5.out.trans (below_of_le b7 C5.out.size))
    clear b7 C5 k0 k1 k2
    go_wp2_with fail
    refine (CK0.out _ _ (VecAt.nil _)).mono ?_; rintro e w8 ⟨A1, c1, rfl, o1, b8⟩
    have C7 := Lib.hid (C6.out.trans (below_of_le b8 C6.out.size))
    clear o1
    clear b8 C6
    go_wp2_with fail
    refine (CS.out _).mono ?_; rintro e w9 ⟨rfl, b9⟩
    have C8 := Lib.hid (C7.out.trans (below_of_le b9 C7.out.size))
    clear b9 C7
    go_wp2_with fail
    refine (CT1.out _ _ (F.out.1.up C8.out).at_).mono ?_; rintro e w10 ⟨mv, mb, rfl, hmv, hmb, hmi, b10⟩
    have C9 := Lib.hid (C8.out.trans (below_of_le b10 C8.out.size))
    have M1 := Lib.hid hmi.at_
    clear hmi hmv hmb
    clear b10 C8
    go_wp2_with fail
    refine (CK0.out _ _ M1.out).mono ?_; rintro e w11 ⟨A1, c1, rfl, o1, b11⟩
    have C10 := Lib.hid (C9.out.trans (below_of_le b11 C9.out.size))
    clear o1 M1
    clear b11 C9
    go_wp2_with fail
    refine (CT2.out _ _ (F.out.1.up C10.out).at_).mono ?_; rintro e w12 ⟨mv, mb, rfl, hmv, hmb, hmi, b12⟩
    have C11 := Lib.hid (C10.out.trans (below_of_le b12 C10.out.size))
    have M1 := Lib.hid hmi.at_
    clear hmi hmv hmb
    clear b12 C10
    go_wp2_with fail
    refine (CK0.out _ _ M1.out).mono ?_; rintro e w13 ⟨A1, c1, rfl, o1, b13⟩
    have C12 := Lib.hid (C11.out.trans (below_of_le b13 C11.out.size))
    clear o1 M1
    clear b13 C11
    go_wp2_with fail
    refine (CC.out _).mono ?_; rintro e w14 ⟨mv, mb, rfl, hmv, hmb, hmi, b14⟩
    have C13 := Lib.hid (C12.out.trans (below_of_le b14 C12.out.size))
    have M1 := Lib.hid hmi.at_
    clear hmi hmv hmb
    clear b14 C12
    go_wp2_with fail
    refine (CK0.out _ _ M1.out).mono ?_; rintro e w15 ⟨A1, c1, rfl, o1, b15⟩
    have C14 := Lib.hid (C13.out.trans (below_of_le b15 C13.out.size))
    clear o1 M1
    clear b15 C13
    go_wp2_with fail
    refine (CV1.out _ _ (F.out.1.up C14.out).at_).mono ?_; rintro e w16 ⟨rfl, b16⟩
    have C15 := Lib.hid (C14.out.trans (below_of_le b16 C14.out.size))
    clear b16 C14
    go_wp2_with fail
    refine (CV2.out _ _ (F.out.1.up C15.out).at_).mono ?_; rintro e w17 ⟨rfl, b17⟩
    have C16 := Lib.hid (C15.out.trans (below_of_le b17 C15.out.size))
    clear b17 C15
    have hq := HQ.out.2
    go_wp2_with fail
    refine (CKM.out _ _ (F.out.1.up C16.out).at_).mono ?_; rintro e w18 ⟨A1, c1, rfl, o1, b18⟩
    have C17 := Lib.hid (C16.out.trans (below_of_le b18 C16.out.size))
    have M1 := Lib.hid (MsAt.own o1)
    clear o1 hq
    clear b18 C16
    go_wp2_with fail
    refine (DS.out _ _ _ _ _ M1.out (F.out.2.1.up C17.out)).mono ?_; rintro e w19 ⟨rfl, b19⟩
    have C18 := Lib.hid (C17.out.trans (below_of_le b19 C17.out.size))
    clear M1
    clear b19 C17
    go_wp2_with fail
    refine (C9.out _).mono ?_; rintro e w20 ⟨rfl, b20⟩
    have C19 := Lib.hid (C18.out.trans (below_of_le b20 C18.out.size))
    clear b20 C18
    have HF := Lib.hid (show Below N w w20 from (hN ▸ F.out.2.2.2 : Below N w w1).trans (below_of_le C19.out (by have := F.out.2.2.2.size; omega)))
    go_wp2
    go_ret
    exact ⟨rfl, HF.out⟩
end Go.Proofs.Ytailbppddnegoaa
