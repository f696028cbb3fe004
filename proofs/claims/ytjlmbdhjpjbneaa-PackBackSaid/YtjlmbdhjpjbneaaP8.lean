/- Layer 5 (pack): the walk of the law PackPuts. -/
import Derived.Test.YtjlmbdhjpjbneaaP7
import Derived.Test.YtjlmbdhjpjbneaaD12
namespace Go.Proofs.Ytjlmbdhjpjbneaa
open Go.RowKit
set_option linter.unusedVariables false
set_option maxRecDepth 100000

theorem ptP_len (p : Pt) (hN : p.N < 18446744073709551616) (hS : p.S.size ≤ 300) : (ptP p).length ≤ 320 := by
  unfold ptP
  have h1 := vput_le hN
  have h2 := vput_le (x := p.S.size) (by omega)
  have hb := iN_b p.N
  have h3 := vput_le (x := (foldI (iN p.N)).toNat) (by have := foldI_lt _ hb.1 hb.2; have := foldI_nn (iN p.N); omega)
  repeat' split
  all_goals simp [sb_length]
  all_goals omega
set_option maxHeartbeats 4000000 in
theorem packPuts_law (w : World) {v : Value} (hv : IsParts w v) :
    Calls Try.prog 7 #[v] w fun e w' => e = .returned (.bool true) ∧ Below w.heap.size w w' := by
  obtain ⟨A, n, c, f, rfl, hnc, hcm, hr, hoks⟩ := hv
  obtain ⟨i0, hi, hz0, hz1, hz2⟩ := info_parts Try.info_by
  have CLi := Lib.hid (light_any w w.heap.size A n c f hr hnc hcm (fun i hi => ⟨(hoks i hi).2.2.1, by have := (hoks i hi).2.2.2.2; omega⟩))
  have C9 := Lib.hid awake05_any
  have CP := Lib.hid (fun (p : Pt) (w : World) base b A c l h hb hl hok hS hF => put_part p w base b A c l h hb hl hok hS hF)
  have CN := Lib.hid (fun x w hx => rnum5_any x w hx)
  have CI := Lib.hid (fun x w h1 h2 => rputInt_any x w h1 h2)
  have CT := Lib.hid (fun s hs w => rtext5_any s hs w)
  have CF := Lib.hid (fun FA n fc B fl w hr hn => rflags5_any FA n fc B fl w hr hn)
  have hcm' : c ≤ 9223372036854775807 := hcm
  generalize hN : w.heap.size = N at *
  go_enter Try.func7, Try.ntmps7
  go_wp2_with fail
  refine (CLi.out).mono ?_; rintro e w0 ⟨r, rfl, hl, rfl⟩
  clear CLi
  cases r
  · go_wp2_with fail
    refine (C9.out _).mono ?_; rintro e w2 ⟨rfl, b2⟩
    go_wp2
    go_ret
    exact ⟨rfl, hN ▸ b2⟩
  obtain ⟨hn30, hsm⟩ := hl rfl
  have e0 : Wr ((w.alloc (.cells #[.slice none 0 0] 64)).alloc (.cells #[] 5)) N N none 0 [] := by
    have := (wr_new w N (by omega)).below ((Below.refl _ _).alloc (Nat.le_refl _) (.cells #[] 5))
    rw [hN] at this
    exact this
  have s1 : (w.alloc (.cells #[.slice none 0 0] 64)).heap.size = N + 1 := by simp [hN]
  have f0 : Own ((w.alloc (.cells #[.slice none 0 0] 64)).alloc (.cells #[] 5)) (N + 1) 5 1 (some ⟨N + 1, 0, none⟩) 0 0 [] := by
    have := own_e (w.alloc (.cells #[.slice none 0 0] 64)) 5 1 (N + 1) (by omega)
    rw [s1] at this
    exact this
  have b0 : Below N w ((w.alloc (.cells #[.slice none 0 0] 64)).alloc (.cells #[] 5)) := ((Below.refl _ _).alloc (by omega) _).alloc (by omega) _
  have E0 := Lib.hid e0
  have F0 := Lib.hid f0
  have B0 := Lib.hid b0
  have hz : ((w.alloc (.cells #[.slice none 0 0] 64)).alloc (.cells #[] 5)).heap.size = N + 2 := by simp [hN]
  clear e0 f0 b0 hl s1
  go_wp2_with fail
  generalize ((w.alloc (.cells #[.slice none 0 0] 64)).alloc (.cells #[] 5)) = W0 at *
  refine (wbytes_any W0 N N none 0 [] E0.out (by simp)).mono ?_; rintro e w1 ⟨Ax, cx, rfl, ox, bx⟩
  have E1 := Lib.hid (E0.out.below bx)
  have F1 := Lib.hid (F0.out.below bx (Nat.le_refl _))
  have B1 := Lib.hid (B0.out.trans (below_of_le bx (by omega)))
  clear E0 F0 B0 ox bx hz
  go_wp2_with fail
  go_loopw [4, 6] (fun x i wr => ∃ (j : Nat) (L : List UInt8) (Aw A4 : Option Addr) (cw c4 : Nat), j ≤ n ∧ i = .int .i64 j ∧ x = .slice A4 L.length c4 ∧ L.length ≤ 320 * j ∧ Wr wr N N Aw cw L ∧ Own wr (N + 1) 5 1 A4 L.length c4 (bv L) ∧ Apart Aw A4 ∧ Below N w wr) (fun _ i _ => n - (intOf i).toNat)
  case atStart => exact ⟨0, [], none, _, 0, 0, by omega, rfl, rfl, by simp, E1.out, F1.out, fun g hg => by simp [bl] at hg, B1.out⟩
  case round =>
    obtain ⟨j, L, Aw, A4, cw, c4, hj, rfl, rfl, hLj, hw, ho4, d1, hB⟩ := hrel
    clear E1 F1 B1
    have hNl := hw.2.1.lt
    by_cases hlt : j < n
    · obtain ⟨b0, o0, rfl, hb0, hcell⟩ := (hr.below hB) (by omega)
      obtain ⟨s0, s1, s2, s3, s4⟩ := hcell j hlt
      have hok := hoks j hlt
      obtain ⟨hS, hF⟩ := hsm j hlt
      have hpl := ptP_len (f j) hok.2.1 hS
      have hok' : ptOk wr wr.heap.size (f j) := ⟨hok.1, hok.2.1, hok.2.2.1, (hok.2.2.2.1.below hB).more (by omega), hok.2.2.2.2⟩
      have cp := CP.out (f j) wr N N Aw cw L hw (by omega) (by omega) hok' hS hF
      unfold ptV at cp
      have HB := Lib.hid hB
      clear hcell hB hok'
      go_wp2_with fail
      refine (cp).mono ?_; rintro e w1 ⟨Aw1, cw1, rfl, hw1, st1⟩
      have o4 := ho4.ch st1.1 (by rintro k hk _ hg (e | e); omega; exact d1 k e hg)
      have d1' : Apart Aw1 A4 := apart_near d1 ho4 st1.2
      have hAw : ∀ g, bl Aw = some g → N ≤ g := fun g hg => (hw.2.2.block_lt g (by rw [ownBlock_bl]; exact hg)).1
      have bw : Below N wr w1 := st1.1.below (by rintro k hk (e | e); omega; have := hAw k e; omega) (by omega)
      have u0 : w1.cell? ⟨b0, o0 + j * 5, none⟩ = some (.int .i64 (f j).k) := by rw [bw.cell (by simp only; omega)]; exact s0
      have u1 : w1.cell? ⟨b0, o0 + j * 5 + 1, none⟩ = some (.int .u64 ((f j).N : Int)) := by rw [bw.cell (by simp only; omega)]; exact s1
      have u2 : w1.cell? ⟨b0, o0 + j * 5 + 2, none⟩ = some (.string (f j).S) := by rw [bw.cell (by simp only; omega)]; exact s2
      have u3 : w1.cell? ⟨b0, o0 + j * 5 + 3, none⟩ = some (.slice (f j).FA (f j).fn (f j).fc) := by rw [bw.cell (by simp only; omega)]; exact s3
      have u4 : w1.cell? ⟨b0, o0 + j * 5 + 4, none⟩ = some (.int .i64 (f j).most) := by rw [bw.cell (by simp only; omega)]; exact s4
      have hsz1 := st1.1.size
      have hrF := (hok.2.2.2.1.below HB.out).below bw
      have hB1 := Lib.hid (HB.out.trans bw)
      clear cp s0 s1 s2 s3 s4 hw ho4 d1 st1 hAw bw HB
      by_cases e1 : (f j).k = 1
      · have t1 : ((f j).k == 1) = true := by simp [e1]
        have hP : ptP (f j) = vput (f j).N := by unfold ptP; rw [if_pos e1]
        have cq := CN.out (f j).N w1 (by have := hok.2.1; omega)
        rw [← hP] at cq
        clear hP
        generalize hQ : ptP (f j) = Q at *
        clear hQ
        go_wp2_with fail
        refine (cq).mono ?_; rintro e w3 ⟨A3, c3, rfl, o3, b3⟩
        have hw3 := Lib.hid (hw1.below b3)
        have o43 := o4.below b3 (Nat.le_refl _)
        have hsz3 := b3.size
        have hB3 := Lib.hid (hB1.out.trans (below_of_le b3 (by omega)))
        have hAl : ∀ k, some k = bl A4 → N + 1 ≤ k := fun k hk => (o43.block_lt k (by rw [ownBlock_bl]; exact hk.symm)).1
        clear u0 u1 u2 u3 u4 hw1 o4 hB1 b3 cq
        go_wp2_with (
          at_builtin
          refine wpList_append_rdn (P := Try.prog) w3 (rfl) (.tmp 35) (.tmp 41) 62 rfl (N + 1) 5 i0 (.int .u8 0) 1 1 Try.underlying62 hi hz0 hz1 hz2 rfl (by decide) (by decide) A4 L.length c4 (bv L) rfl o43 w3.heap.size A3 Q.length c3 (bv Q) rfl o3.rd (bv_oneCell _) (by omega) (by omega) ?_
          intro A6 c6 w6 o6 g6 n6
          rw [← bv_append] at o6
          have hc6 := grown_ch g6
          have hw6 := hw3.out.ch hc6 (by intro h; have := hAl _ h; omega) (fun g hg h => d1' g hg h.symm)
          have e1 : Apart Aw1 A6 := (apart_near d1'.symm hw3.out.2.2 (near_or n6)).symm
          have bw6 : Below N w3 w6 := hc6.below (by intro k hk h; have := hAl _ h; omega) (by omega)
          have hB6 := hB3.out.trans bw6
          clear hw3 o43 hB3 o3 bw6 hc6 g6 n6)
        go_roundw
        case rel =>
          have eL : L.length + Q.length = (L ++ Q).length := by simp
          rw [eL] at o6 ⊢
          exact ⟨j + 1, L ++ Q, Aw1, A6, cw1, c6, by omega, by go_num, rfl, by simp; omega, hw6, o6, e1, hB6⟩
        case measure => simp [intOf]; omega
      have t1 : ((f j).k == 1) = false := by simp [e1]
      by_cases e2 : (f j).k = 2
      · have t2 : ((f j).k == 2) = true := by simp [e2]
        have hP : ptP (f j) = vput (foldI (iN (f j).N)).toNat := by unfold ptP; rw [if_neg e1, if_pos e2]
        have hX1 := iN_b (f j).N
        unfold iN at hP hX1
        generalize hX : IntKind.i64.wrap ((f j).N : Int) = X at *
        have cq := CI.out X w1 hX1.1 hX1.2
        rw [← hP] at cq
        clear hP
        generalize hQ : ptP (f j) = Q at *
        clear hQ
        go_wp2_with fail
        refine (cq).mono ?_; rintro e w3 ⟨A3, c3, rfl, o3, b3⟩
        have hw3 := Lib.hid (hw1.below b3)
        have o43 := o4.below b3 (Nat.le_refl _)
        have hsz3 := b3.size
        have hB3 := Lib.hid (hB1.out.trans (below_of_le b3 (by omega)))
        have hAl : ∀ k, some k = bl A4 → N + 1 ≤ k := fun k hk => (o43.block_lt k (by rw [ownBlock_bl]; exact hk.symm)).1
        clear u0 u1 u2 u3 u4 hw1 o4 hB1 b3 cq
        go_wp2_with (
          at_builtin
          refine wpList_append_rdn (P := Try.prog) w3 (rfl) (.tmp 45) (.tmp 52) 62 rfl (N + 1) 5 i0 (.int .u8 0) 1 1 Try.underlying62 hi hz0 hz1 hz2 rfl (by decide) (by decide) A4 L.length c4 (bv L) rfl o43 w3.heap.size A3 Q.length c3 (bv Q) rfl o3.rd (bv_oneCell _) (by omega) (by omega) ?_
          intro A6 c6 w6 o6 g6 n6
          rw [← bv_append] at o6
          have hc6 := grown_ch g6
          have hw6 := hw3.out.ch hc6 (by intro h; have := hAl _ h; omega) (fun g hg h => d1' g hg h.symm)
          have e1 : Apart Aw1 A6 := (apart_near d1'.symm hw3.out.2.2 (near_or n6)).symm
          have bw6 : Below N w3 w6 := hc6.below (by intro k hk h; have := hAl _ h; omega) (by omega)
          have hB6 := hB3.out.trans bw6
          clear hw3 o43 hB3 o3 bw6 hc6 g6 n6)
        go_roundw
        case rel =>
          have eL : L.length + Q.length = (L ++ Q).length := by simp
          rw [eL] at o6 ⊢
          exact ⟨j + 1, L ++ Q, Aw1, A6, cw1, c6, by omega, by go_num, rfl, by simp; omega, hw6, o6, e1, hB6⟩
        case measure => simp [intOf]; omega
      have t2 : ((f j).k == 2) = false := by simp [e2]
      by_cases e3 : (f j).k = 3
      · have t3 : ((f j).k == 3) = true := by simp [e3]
        have hP : ptP (f j) = vput (f j).S.size ++ sb (f j).S := by unfold ptP; rw [if_neg e1, if_neg e2, if_pos e3]
        have cq := CT.out (f j).S (by omega) w1
        rw [← hP] at cq
        clear hP
        generalize hQ : ptP (f j) = Q at *
        clear hQ
        go_wp2_with fail
        refine (cq).mono ?_; rintro e w3 ⟨A3, c3, rfl, o3, b3⟩
        have hw3 := Lib.hid (hw1.below b3)
        have o43 := o4.below b3 (Nat.le_refl _)
        have hsz3 := b3.size
        have hB3 := Lib.hid (hB1.out.trans (below_of_le b3 (by omega)))
        have hAl : ∀ k, some k = bl A4 → N + 1 ≤ k := fun k hk => (o43.block_lt k (by rw [ownBlock_bl]; exact hk.symm)).1
        clear u0 u1 u2 u3 u4 hw1 o4 hB1 b3 cq
        go_wp2_with (
          at_builtin
          refine wpList_append_rdn (P := Try.prog) w3 (rfl) (.tmp 56) (.tmp 62) 62 rfl (N + 1) 5 i0 (.int .u8 0) 1 1 Try.underlying62 hi hz0 hz1 hz2 rfl (by decide) (by decide) A4 L.length c4 (bv L) rfl o43 w3.heap.size A3 Q.length c3 (bv Q) rfl o3.rd (bv_oneCell _) (by omega) (by omega) ?_
          intro A6 c6 w6 o6 g6 n6
          rw [← bv_append] at o6
          have hc6 := grown_ch g6
          have hw6 := hw3.out.ch hc6 (by intro h; have := hAl _ h; omega) (fun g hg h => d1' g hg h.symm)
          have e1 : Apart Aw1 A6 := (apart_near d1'.symm hw3.out.2.2 (near_or n6)).symm
          have bw6 : Below N w3 w6 := hc6.below (by intro k hk h; have := hAl _ h; omega) (by omega)
          have hB6 := hB3.out.trans bw6
          clear hw3 o43 hB3 o3 bw6 hc6 g6 n6)
        go_roundw
        case rel =>
          have eL : L.length + Q.length = (L ++ Q).length := by simp
          rw [eL] at o6 ⊢
          exact ⟨j + 1, L ++ Q, Aw1, A6, cw1, c6, by omega, by go_num, rfl, by simp; omega, hw6, o6, e1, hB6⟩
        case measure => simp [intOf]; omega
      have t3 : ((f j).k == 3) = false := by simp [e3]
      by_cases e4 : (f j).k = 4
      · have t4 : ((f j).k == 4) = true := by simp [e4]
        have hP : ptP (f j) = [flB (f j).fl] := by unfold ptP; rw [if_neg e1, if_neg e2, if_neg e3, if_pos e4]
        have cq := CF.out (f j).FA (f j).fn (f j).fc N (f j).fl w1 hrF (by omega)
        rw [← hP] at cq
        clear hP
        generalize hQ : ptP (f j) = Q at *
        clear hQ
        go_wp2_with fail
        refine (cq).mono ?_; rintro e w3 ⟨A3, c3, rfl, o3, b3⟩
        have hw3 := Lib.hid (hw1.below b3)
        have o43 := o4.below b3 (Nat.le_refl _)
        have hsz3 := b3.size
        have hB3 := Lib.hid (hB1.out.trans (below_of_le b3 (by omega)))
        have hAl : ∀ k, some k = bl A4 → N + 1 ≤ k := fun k hk => (o43.block_lt k (by rw [ownBlock_bl]; exact hk.symm)).1
        clear u0 u1 u2 u3 u4 hw1 o4 hB1 b3 cq
        go_wp2_with (
          at_builtin
          refine wpList_append_rdn (P := Try.prog) w3 (rfl) (.tmp 66) (.tmp 72) 62 rfl (N + 1) 5 i0 (.int .u8 0) 1 1 Try.underlying62 hi hz0 hz1 hz2 rfl (by decide) (by decide) A4 L.length c4 (bv L) rfl o43 w3.heap.size A3 Q.length c3 (bv Q) rfl o3.rd (bv_oneCell _) (by omega) (by omega) ?_
          intro A6 c6 w6 o6 g6 n6
          rw [← bv_append] at o6
          have hc6 := grown_ch g6
          have hw6 := hw3.out.ch hc6 (by intro h; have := hAl _ h; omega) (fun g hg h => d1' g hg h.symm)
          have e1 : Apart Aw1 A6 := (apart_near d1'.symm hw3.out.2.2 (near_or n6)).symm
          have bw6 : Below N w3 w6 := hc6.below (by intro k hk h; have := hAl _ h; omega) (by omega)
          have hB6 := hB3.out.trans bw6
          clear hw3 o43 hB3 o3 bw6 hc6 g6 n6)
        go_roundw
        case rel =>
          have eL : L.length + Q.length = (L ++ Q).length := by simp
          rw [eL] at o6 ⊢
          exact ⟨j + 1, L ++ Q, Aw1, A6, cw1, c6, by omega, by go_num, rfl, by simp; omega, hw6, o6, e1, hB6⟩
        case measure => simp [intOf]; omega
      have t4 : ((f j).k == 4) = false := by simp [e4]
      have hP : ptP (f j) = [] := by unfold ptP; rw [if_neg e1, if_neg e2, if_neg e3, if_neg e4]
      rw [hP, List.append_nil] at hw1
      go_wp2
      go_roundw
      case rel => exact ⟨j + 1, L, Aw1, A4, cw1, c4, by omega, by go_num, rfl, by omega, hw1, o4, d1', hB1.out⟩
      case measure => simp [intOf]; omega
    · have CB := Lib.hid (wbytes_any wr _ _ _ _ _ hw (by omega))
      have HB := Lib.hid hB
      clear hr CP CN CI CT CF hi hz0 hz1 hz2 d1 hw hB
      go_wp2_with fail
      refine (CB.out).mono ?_; rintro e w1 ⟨A7, c7, rfl, o7, b7⟩
      have hs7 := b7.size
      have CS := Lib.hid (same_any L A7 A4 L.length L.length c7 c4 w1.heap.size w1 (by omega) o7.rd ((ho4.rd.below b7).more hs7) (Nat.le_refl _))
      have HB1 := Lib.hid (HB.out.trans (below_of_le b7 (by omega)))
      clear CB o7 ho4 b7 HB
      go_wp2_with fail
      refine (CS.out).mono ?_; rintro e w2 ⟨rfl, b2⟩
      have hs2 := b2.size
      go_wp2_with fail
      refine (C9.out _).mono ?_; rintro e w3 ⟨rfl, b3⟩
      go_wp2
      go_ret
      exact ⟨rfl, HB1.out.trans (below_of_le (below_step b2 b3) (by omega))⟩
end Go.Proofs.Ytjlmbdhjpjbneaa
