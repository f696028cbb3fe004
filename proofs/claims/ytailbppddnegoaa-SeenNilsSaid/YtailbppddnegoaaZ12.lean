/- Layer 18, the document's sets: Missing. -/
import Derived.Test.YtailbppddnegoaaZ11
namespace Go.Proofs.Ytailbppddnegoaa
open Go.RowKit
set_option linter.unusedVariables false
set_option maxRecDepth 100000
attribute [local go_sem ↓] Go.wp_at_zero Go.wp_at_succ

/-- What the loops of the document's Missing keep. -/
structure RI (w : World) (N : Nat) (Ax Ay : Option Addr) (L LO : List Dt) (A : Option Addr) (T : List Dt) (A3 : Option Addr) (c3 : Nat) (S : List Dt) (W : World) : Prop where
  hx : MsAt w Ax L
  hy : MsAt w Ay LO
  hN : w.heap.size = N
  at_ : MsAt W A T
  own : Own W N 27 3 A3 S.length c3 (dts S)
  bel : Below N w W
  far : ∀ k, bl A3 = some k → bl A ≠ some k
  lo : N ≤ W.heap.size
section
variable {w W W' : World} {N : Nat} {Ax Ay : Option Addr} {L LO : List Dt} {A : Option Addr} {T : List Dt} {A3 : Option Addr} {c3 : Nat} {S : List Dt}
theorem RI.x (h : RI w N Ax Ay L LO A T A3 c3 S W) : MsAt W Ax L := h.hx.up (by rw [h.hN]; exact h.bel)
theorem RI.y (h : RI w N Ax Ay L LO A T A3 c3 S W) : MsAt W Ay LO := h.hy.up (by rw [h.hN]; exact h.bel)
theorem RI.up (h : RI w N Ax Ay L LO A T A3 c3 S W) (hb : Below W.heap.size W W') : RI w N Ax Ay L LO A T A3 c3 S W' :=
  ⟨h.hx, h.hy, h.hN, h.at_.up hb, h.own.below hb (Nat.le_refl _), h.bel.trans (below_of_le hb h.lo), h.far, Nat.le_trans h.lo hb.size⟩
theorem RI.new {c : Nat} {e : TypeId} {A' : Option Addr} {T' : List Dt} (h : RI w N Ax Ay L LO A T A3 c3 S W) (hb : Below W.heap.size W W') (ho : Own W' W.heap.size e 3 A' T'.length c (dts T')) : RI w N Ax Ay L LO A' T' A3 c3 S W' :=
  ⟨h.hx, h.hy, h.hN, MsAt.own ho, h.own.below hb (Nat.le_refl _), h.bel.trans (below_of_le hb h.lo), fun k hk e => by
    have h1 := (h.own.block_lt k (by rw [ownBlock_bl]; exact hk)).2
    have h2 := ho.bl_lo k e
    omega, Nat.le_trans h.lo hb.size⟩
theorem RI.app (h : RI w N Ax Ay L LO A T A3 c3 S W) (x : Dt) (hl : S.length ≤ 1000000000) (hA : ∀ k, bl A = some k → k < W.heap.size) :
    ∃ A2 c2 w', (Builtin.append_ #[43, 43] 43 #[.slice A3 S.length c3, .slice (some ⟨W.heap.size, 0, none⟩) 1 1]).run Try.prog (W.alloc (.cells #[.int .i64 x.1.1, .int .i64 x.1.2, .int .i64 x.2] 27)) = .ok (.slice A2 (S.length + 1) c2) w' ∧
      RI w N Ax Ay L LO A T A2 c2 (S ++ [x]) w' ∧ Below N W w' := by
  obtain ⟨A2, c2, w', q', o, ch, b, nr⟩ := app1n W N A3 S.length c3 S rfl h.own x (by omega) h.lo
  refine ⟨A2, c2, w', q', ⟨h.hx, h.hy, h.hN, h.at_.ch ch (fun k hk e => h.far k e.symm hk), by simpa using o, h.bel.trans b, fun k hk e => ?_, Nat.le_trans h.lo b.size⟩, b⟩
  rcases nr k hk with h1 | h1
  · exact h.far k h1 e
  · have := hA k e
    omega
end
theorem at_lt {W : World} {T : List Dt} {b0 o0 j : Nat} {x : Dt} (h : MsAt W (some ⟨b0, o0, none⟩) T) (hx : T[j]? = some x) : ∀ k, bl (some ⟨b0, o0, none⟩) = some k → k < W.heap.size := fun k hk => by
  simp [bl] at hk
  obtain ⟨b9, o9, h9, hb9, _⟩ := Ds.at_ (show Ds W W.heap.size (some ⟨b0, o0, none⟩) T from h) hx
  injection h9 with h9
  injection h9 with h9
  omega
set_option maxHeartbeats 4000000 in
theorem rmissing18_any (w : World) (Ax Ay : Option Addr) (cx cy : Nat) (L LO : List Dt) (h : MsAt w Ax L) (ho : MsAt w Ay LO) (hL : Dw L) (hO : Dw LO) (hl : L.length ≤ 1000) (hlo : LO.length ≤ 1000) :
    Calls Try.prog 56 #[.slice Ax L.length cx, .slice Ay LO.length cy] w (DotsEnd w (missL L (rBase LO) (rBeyond LO))) := by
  have CB := Lib.hid (fun W (h : MsAt W Ay LO) => rbase18_any W Ay cy LO h hO (by omega))
  have CO := Lib.hid (fun W (h : MsAt W Ay LO) => rbeyond18_any W Ay cy LO h hO (by omega))
  have CG := Lib.hid (fun (a : Ac) W (h : MsAt W Ax L) => rup18_any W Ax cx L a h (by omega) (dw_le hL))
  have CH := Lib.hid (fun (x : Dt) W (h : MsAt W Ax L) => rhas_any W W.heap.size Ax cx L x h (Nat.le_refl _) (by omega))
  have hb1 := (rBase_vw hO).len
  have hb2 : (rBeyond LO).length ≤ 1000 := by have := List.length_filter_le (fun x => decide (upN LO x.1 < x.2)) LO; unfold rBeyond; omega
  have HU := Lib.hid (fun a => (show 0 ≤ upN L a ∧ upN L a ≤ 4294967296 from by
    have hu := upN_is L a
    refine ⟨hu.1, ?_⟩
    by_cases h0 : 1 ≤ upN L a
    · have := dw_le hL _ (hu.2.1 _ h0 (Int.le_refl _))
      exact this
    · omega))
  have hoe := own_e3 w 27 w.heap.size (Nat.le_refl _)
  have H0 := Lib.hid (show RI w w.heap.size Ax Ay L LO none [] (some ⟨w.heap.size, 0, none⟩) 0 [] (w.alloc (.cells #[] 27)) from ⟨h, ho, rfl, Rd.nil_, by simpa [dts] using hoe, (Below.refl _ _).alloc (Nat.le_refl _) _, by simp [bl], by simp⟩)
  generalize rBase LO = MO at *
  generalize rBeyond LO = BO at *
  generalize L.length = l1 at *
  generalize LO.length = l2 at *
  generalize hN : w.heap.size = N at *
  unfold acV at CG
  unfold dtV at CH
  clear h ho hL hO hlo hoe hl
  go_enter Try.func56, Try.ntmps56
  go_wp2_with fail
  generalize (w.alloc (.cells #[] 27)) = W0 at *
  refine (CB.out _ H0.out.y).mono ?_; rintro e w1 ⟨A1, c1, rfl, o1, b1⟩
  have H1 := Lib.hid (H0.out.new b1 o1)
  clear o1 b1 H0
  generalize hn1 : MO.length = n1 at *
  have HN1 := Lib.hid hn1
  clear hn1
  go_wp2_with fail
  go_loopw [5, 7] (fun y i wr => ∃ (j : Nat) (A3 : Option Addr) (c3 : Nat) (S : List Dt), j ≤ n1 ∧ i = .int .i64 j ∧ S = missM L (MO.take j) ∧ S.length ≤ j ∧ y = .slice A3 S.length c3 ∧ RI w N Ax Ay L LO A1 MO A3 c3 S wr) (fun _ i _ => n1 - (intOf i).toNat)
  case atStart => exact ⟨0, _, 0, [], by omega, rfl, rfl, by simp, rfl, H1.out⟩
  case round =>
    obtain ⟨j, A3, c3, S, hj, rfl, hS, hSl, rfl, hI⟩ := hrel
    have HI := Lib.hid hI
    have HS := Lib.hid hS
    clear hI H1 hS
    by_cases hlt : j < n1
    · obtain ⟨x, hx⟩ : ∃ x, MO[j]? = some x := ⟨MO[j]'(by have := HN1.out; omega), List.getElem?_eq_getElem _⟩
      obtain ⟨b0, o0, hA, hb0, k0, k1, k2⟩ := Ds.at_ (show Ds wr wr.heap.size A1 MO from HI.out.at_) hx
      have htk := missM_step (L := L) hx
      rw [← HS.out] at htk
      have HTK := Lib.hid htk
      have hq := HU.out x.1
      have CX := Lib.hid (CG.out x.1)
      have HX := Lib.hid hx
      obtain ⟨⟨d, i⟩, t⟩ := x
      simp only at k0 k1 k2 CX HTK hq
      clear hx htk
      generalize upN L (d, i) = n at *
      have hw1 : IntKind.i64.wrap (n + 1) = n + 1 := by rw [IntKind.wrap_i64]; omega
      subst hA
      have HK := Lib.hid (And.intro k0 (And.intro k1 k2))
      go_wp2_with fail
      refine (CX.out _ HI.out.x).mono ?_; rintro e w5 ⟨rfl, b5⟩
      have HC := Lib.hid (And.intro (keep3b hb0 b5 HK.out) (HI.out.up b5))
      clear b5 HI HK k0 k1 k2
      obtain ⟨k0, k1, k2⟩ := HC.out.1
      by_cases hp : n < t
      · have hs2 := Lib.hid (show S ++ [((d, i), n + 1)] = missM L (MO.take (j + 1)) by rw [HTK.out, if_pos hp])
        obtain ⟨A4, c4, w4, q4, m4, b4⟩ := HC.out.2.app ((d, i), n + 1) (by omega) (at_lt HC.out.2.at_ HX.out)
        have HF := Lib.hid m4
        have Q4 := Lib.hid q4
        clear m4 b4 q4
        go_wp2_with (at_builtin; refine wpList_want (by rfl) (fun K hK => wp_append_runs _ _ _ _ _ rfl _ _ rfl rfl _ _ Q4.out (hK _ _ ?_)))
        go_wp2
        go_roundw
        case rel => exact ⟨j + 1, A4, c4, S ++ [((d, i), n + 1)], by omega, by go_num, hs2.out, by simp; omega, by simp, HF.out⟩
        case measure => simp [intOf]; omega
      · have hs2 := Lib.hid (show S = missM L (MO.take (j + 1)) by rw [HTK.out, if_neg hp]; simp)
        go_wp2
        go_roundw
        case rel => exact ⟨j + 1, A3, c3, S, by omega, by go_num, hs2.out, by omega, rfl, HC.out.2⟩
        case measure => simp [intOf]; omega
    · have hj' : n1 = j := by omega
      subst hj'
      have hS1 := Lib.hid (show S = missM L MO by rw [HS.out, List.take_of_length_le (by have := HN1.out; omega)])
      clear HS
      go_wp2_with fail
      refine (CO.out _ HI.out.y).mono ?_; rintro e w2 ⟨A2, c2, rfl, o2, b2⟩
      have H2 := Lib.hid (HI.out.new b2 o2)
      clear o2 b2 HI
      generalize hn2 : BO.length = n2 at *
      have HN2 := Lib.hid hn2
      clear hn2
      have S0L := Lib.hid hSl
      go_wp2_with fail
      go_loopw [5, 10] (fun y i wr => ∃ (j : Nat) (A4 : Option Addr) (c4 : Nat) (S1 : List Dt), j ≤ n2 ∧ i = .int .i64 j ∧ S1 = S ++ missB L (BO.take j) ∧ S1.length ≤ n1 + j ∧ y = .slice A4 S1.length c4 ∧ RI w N Ax Ay L LO A2 BO A4 c4 S1 wr) (fun _ i _ => n2 - (intOf i).toNat)
      case atStart => exact ⟨0, A3, c3, S, by omega, rfl, by simp [missB], by omega, rfl, H2.out⟩
      case round =>
        obtain ⟨j, A4, c4, S1, hj, rfl, hS, hSl1, rfl, hI⟩ := hrel
        have HI := Lib.hid hI
        have HS := Lib.hid hS
        clear hI H2 hS
        by_cases hlt : j < n2
        · obtain ⟨x, hx⟩ : ∃ x, BO[j]? = some x := ⟨BO[j]'(by have := HN2.out; omega), List.getElem?_eq_getElem _⟩
          obtain ⟨b0, o0, hA, hb0, k0, k1, k2⟩ := Ds.at_ (show Ds wr wr.heap.size A2 BO from HI.out.at_) hx
          have htk := missB_step (L := L) hx
          have CY := Lib.hid (CH.out x)
          have HX := Lib.hid hx
          obtain ⟨⟨d, i⟩, t⟩ := x
          simp only at k0 k1 k2 CY
          clear hx
          subst hA
          have HK := Lib.hid (And.intro k0 (And.intro k1 k2))
          go_wp2_with fail
          refine (CY.out _ HI.out.x).mono ?_; rintro e w5 ⟨rfl, b5⟩
          have HC := Lib.hid (And.intro (keep3b hb0 b5 HK.out) (HI.out.up b5))
          clear b5 HK k0 k1 k2 HI
          obtain ⟨k0, k1, k2⟩ := HC.out.1
          by_cases hin : ((d, i), t) ∈ L
          · rw [if_pos hin] at htk
            rw [decide_eq_true hin]
            have hs2 := Lib.hid (show S1 = S ++ missB L (BO.take (j + 1)) by rw [htk, HS.out]; simp)
            clear htk hin
            go_wp2
            go_roundw
            case rel => exact ⟨j + 1, A4, c4, S1, by omega, by go_num, hs2.out, by omega, rfl, HC.out.2⟩
            case measure => simp [intOf]; omega
          · rw [if_neg hin] at htk
            rw [decide_eq_false hin]
            have hs2 := Lib.hid (show S1 ++ [((d, i), t)] = S ++ missB L (BO.take (j + 1)) by rw [htk, HS.out]; simp)
            clear htk hin
            obtain ⟨A6, c6, w6, q6, m6, b6⟩ := HC.out.2.app ((d, i), t) (by omega) (at_lt HC.out.2.at_ HX.out)
            have HF := Lib.hid m6
            have Q6 := Lib.hid q6
            clear m6 b6 q6
            go_wp2_with (at_builtin; refine wpList_want (by rfl) (fun K hK => wp_append_runs _ _ _ _ _ rfl _ _ rfl rfl _ _ Q6.out (hK _ _ ?_)))
            go_wp2
            go_roundw
            case rel => exact ⟨j + 1, A6, c6, S1 ++ [((d, i), t)], by omega, by go_num, hs2.out, by simp; omega, by simp, HF.out⟩
            case measure => simp [intOf]; omega
        · have hj2 : n2 = j := by omega
          subst hj2
          have hS2 := Lib.hid (show S1 = missL L MO BO by rw [HS.out, List.take_of_length_le (by have := HN2.out; omega), hS1.out]; rfl)
          have HE := Lib.hid (show DotsEnd w (missL L MO BO) (.returned (.slice A4 S1.length c4)) wr from ⟨A4, c4, by rw [hS2.out], by have := HI.out.own; rw [hS2.out] at this; rw [hN]; exact this, by rw [hN]; exact HI.out.bel⟩)
          go_wp2
          go_ret
          exact HE.out
end Go.Proofs.Ytailbppddnegoaa
