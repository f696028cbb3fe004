/- Layer 18 (seen): Join of two sets. -/
import Derived.Test.YtailbppddnegoaaZ9
namespace Go.Proofs.Ytailbppddnegoaa
open Go.RowKit
set_option linter.unusedVariables false
set_option maxRecDepth 100000
attribute [local go_sem ↓] Go.wp_at_zero Go.wp_at_succ

def JoinS (w : World) (s v b g : Nat) (L : List Dt) (e : Ending) (w' : World) : Prop :=
  e = .returned (.tuple #[]) ∧ ∃ M' B', SetL M' B' L ∧ SetIs w' s v b g M' B' ∧ Ch (fun k => k = b ∨ k = g) w w'
set_option maxHeartbeats 4000000 in
theorem ssjoin_in (w : World) (s v b g so vo bo go : Nat) (M B L MO BO LO : List Dt) (h : SetIs w s v b g M B) (ho : SetIs w so vo bo go MO BO) (hL : SetL M B L) (hO : SetL MO BO LO)
    (ap : ∀ k, k = so ∨ k = vo ∨ k = bo ∨ k = go → ¬ (k = b ∨ k = g)) (hl : L.length ≤ 1000) (hlo : LO.length ≤ 1000) :
    Calls Try.prog 57 #[.pointer (some ⟨s, 0, none⟩), .pointer (some ⟨so, 0, none⟩)] w (JoinS w s v b g (dsort (L ++ LO))) := by
  have CB := Lib.hid (fun W (h : SetIs W so vo bo go MO BO) => ssbase_any W _ MO BO h.at_)
  have CO := Lib.hid (fun W (h : SetIs W so vo bo go MO BO) => sssorted_any W _ MO BO h.at_ (by have := hO.len; omega))
  have CS := Lib.hid (fun W (M B : List Dt) (h : SetIs W s v b g M B) (hl : B.length ≤ 1000) => sssorted_any W _ M B h.at_ (by omega))
  have CR := Lib.hid (fun (x : Dt) W (M : List Dt) (h : VecIs W v b M) => vcraise_any x.1 x.2 W v b M h)
  have CH := Lib.hid (fun (x : Dt) W (M : List Dt) (h : VecIs W v b M) => vchas_any x W _ M h.at_)
  have CF := Lib.hid (fun (a : Ac) (ok : acOk a) W (M B : List Dt) (h : SetIs W s v b g M B) => ssfill_any a ok W s v b g M B h)
  have CA := Lib.hid (fun (x : Dt) (ok : dtOk x) W (M B L : List Dt) (h : SetIs W s v b g M B) (hL : SetL M B L) (hl : L.length ≤ 900000) => ssadd_in x ok W s v b g M B L h hL hl)
  have HL := Lib.hid (And.intro hL (And.intro hO (And.intro hl hlo)))
  have HAP := Lib.hid ap
  have hj0 : JI w s v b g so vo bo go MO BO none [] M B w := ⟨h, ho, Rd.nil_, Ch.refl _ _, by simp [bl], ap⟩
  have H0 := Lib.hid hj0
  have hlt := Lib.hid (And.intro h.lts (And.intro h.ltb h.ltg))
  have hne := Lib.hid (And.intro h.sb (And.intro h.sg h.ne))
  unfold acV at CR CF
  unfold dtV at CH CA
  clear h ho hL hO ap hl hlo hj0
  go_enter Try.func57, Try.ntmps57
  go_wp2_with fail
  refine (CB.out _ H0.out.oth).mono ?_; rintro e w1 ⟨A1, c1, rfl, o1, b1⟩
  have H1 := Lib.hid (H0.out.new b1 o1)
  clear o1 b1 H0
  have hb1 := HL.out.2.1.sw.vw.len
  generalize hn1 : MO.length = n1 at *
  have HN1 := Lib.hid hn1
  clear hn1
  go_wp2_with fail
  go_loopw [23] (fun i wr => ∃ (j : Nat), j ≤ n1 ∧ i = .int .i64 j ∧ JI w s v b g so vo bo go MO BO A1 MO (rjoin M (MO.take j)) B wr) (fun i _ => n1 - (intOf i).toNat)
  case atStart => exact ⟨0, by omega, rfl, H1.out⟩
  case round =>
    obtain ⟨j, hj, rfl, hI⟩ := hrel
    have HI := Lib.hid hI
    clear hI H1
    by_cases hlt : j < n1
    · obtain ⟨x, hx⟩ : ∃ x, MO[j]? = some x := ⟨MO[j]'(by have := HN1.out; omega), List.getElem?_eq_getElem _⟩
      obtain ⟨b0, o0, hA, hb0, k0, k1, k2⟩ := Ds.at_ (show Ds wr wr.heap.size A1 MO from HI.out.at_) hx
      have htk := Lib.hid (rjoin_take M MO j x hx)
      have hsw := Lib.hid (show Sw (rraise (rjoin M (MO.take j)) x.1 x.2) B from ⟨HI.out.set.sw.vw.raise _ _, HI.out.set.sw.srt, HI.out.set.sw.right⟩)
      have CX := Lib.hid (fun W (h : VecIs W v b (rjoin M (MO.take j))) => CR.out x W _ h)
      obtain ⟨⟨d, i⟩, q⟩ := x
      simp only at k0 k1 k2 CX htk hsw
      clear hx
      have H4 := Lib.hid (And.intro (HI.out.alloc (.cells #[.int .i64 d, .int .i64 i, .int .i64 q] 33)) (C3.new wr d i q 33))
      subst hA
      go_wp2_with fail
      generalize hP : wr.heap.size = P at *
      have hPs := Lib.hid (And.intro HI.out.set.ltb HI.out.set.ltg)
      generalize (wr.alloc (.cells #[.int .i64 d, .int .i64 i, .int .i64 q] 33)) = W4 at *
      have hP4 : P < W4.heap.size := World.block_lt_of_cell? W4 _ H4.out.2.1
      refine wp_region_held_drew (S := (fun W => W.cell? ⟨P, 0, none⟩ = some (.int .i64 d) ∧ W.cell? ⟨P, 1, none⟩ = some (.int .i64 i) ∧ W.cell? ⟨P, 2, none⟩ = some (.int .i64 q) ∧ W.cell? ⟨s, 0, none⟩ = some (.pointer (some ⟨v, 0, none⟩)))) (by kernel_rfl) ?_ (fun hHeld => ?_)
      · (try dsimp only); exact ⟨H4.out.2.1, H4.out.2.2.1, H4.out.2.2.2, H4.out.1.set.c0⟩
      refine wpAnyH_take (i := 0) (v := ?_) rfl (by kernel_rfl) (by kernel_rfl) (by kernel_rfl) (fun _ _ _ h => h) (Or.inl ⟨by rfl, ?_⟩) (by assumption) ?_
      rotate_left
      first | (focus ((intro w hSw; (try dsimp only at hSw); go_simp); (try with_reducible rfl); done)) | fail
      try simp only [Act.put, List.getElem_toArray, List.getElem_cons_zero, List.setIfInBounds_toArray, List.set_cons_zero, List.set_cons_succ]
      refine wpAnyH_take (i := 1) (v := ?_) rfl (by kernel_rfl) (by kernel_rfl) (by kernel_rfl) (fun _ _ _ h => h) (Or.inl ⟨by rfl, ?_⟩) (by assumption) ?_
      rotate_left
      first | (focus ((intro w hSw; (try dsimp only at hSw); go_simp); (try with_reducible rfl); done)) | fail
      try simp only [Act.put, List.getElem_toArray, List.getElem_cons_zero, List.getElem_cons_succ, List.setIfInBounds_toArray, List.set_cons_zero, List.set_cons_succ]
      refine wpAnyH_take (i := 2) (v := ?_) rfl (by kernel_rfl) (by kernel_rfl) (by kernel_rfl) (fun _ _ _ h => h) (Or.inl ⟨by rfl, ?_⟩) (by assumption) ?_
      rotate_left
      first | (focus ((intro w hSw; (try dsimp only at hSw); go_simp); (try with_reducible rfl); done)) | fail
      try simp only [Act.put, List.getElem_toArray, List.getElem_cons_zero, List.getElem_cons_succ, List.setIfInBounds_toArray, List.set_cons_zero, List.set_cons_succ]
      refine wpAnyH_take (i := 3) (v := ?_) rfl (by kernel_rfl) (by kernel_rfl) (by kernel_rfl) (fun _ _ _ h => h) (Or.inl ⟨by rfl, ?_⟩) (by assumption) ?_
      rotate_left
      first | (focus ((intro w hSw; (try dsimp only at hSw); go_simp); (try with_reducible rfl); done)) | fail
      try simp only [Act.put, List.getElem_toArray, List.getElem_cons_zero, List.getElem_cons_succ, List.setIfInBounds_toArray, List.set_cons_zero, List.set_cons_succ]
      refine wpAnyH_take (i := 4) (v := ?_) rfl (by kernel_rfl) (by kernel_rfl) (by kernel_rfl) (fun _ _ _ h => h) (Or.inl ⟨by rfl, ?_⟩) (by assumption) ?_
      rotate_left
      first | (focus ((intro w hSw; (try dsimp only at hSw); go_simp); (try with_reducible rfl); done)) | fail
      try simp only [Act.put, List.getElem_toArray, List.getElem_cons_zero, List.getElem_cons_succ, List.setIfInBounds_toArray, List.set_cons_zero, List.set_cons_succ]
      refine wpAnyH_take (i := 5) (v := ?_) rfl (by kernel_rfl) (by kernel_rfl) (by kernel_rfl) (fun _ _ _ h => h) (Or.inl ⟨by rfl, ?_⟩) (by assumption) ?_
      rotate_left
      first | (focus ((intro w hSw; (try dsimp only at hSw); go_simp); (try with_reducible rfl); done)) | fail
      try simp only [Act.put, List.getElem_toArray, List.getElem_cons_zero, List.getElem_cons_succ, List.setIfInBounds_toArray, List.set_cons_zero, List.set_cons_succ]
      refine wpAnyH_take (i := 6) (v := ?_) rfl (by kernel_rfl) (by kernel_rfl) (by kernel_rfl) (fun _ _ _ h => h) (Or.inl ⟨by rfl, ?_⟩) (by assumption) ?_
      rotate_left
      first | (focus ((intro w hSw; (try dsimp only at hSw); go_simp); (try with_reducible rfl); done)) | fail
      try simp only [Act.put, List.getElem_toArray, List.getElem_cons_zero, List.getElem_cons_succ, List.setIfInBounds_toArray, List.set_cons_zero, List.set_cons_succ]
      refine wpAnyH_take (i := 7) (v := ?_) rfl (by kernel_rfl) (by kernel_rfl) (by kernel_rfl) (fun _ _ _ h => h) (Or.inl ⟨by rfl, ?_⟩) (by assumption) ?_
      rotate_left
      first | (focus ((intro w hSw; (try dsimp only at hSw); go_simp); (try with_reducible rfl); done)) | fail
      try simp only [Act.put, List.getElem_toArray, List.getElem_cons_zero, List.getElem_cons_succ, List.setIfInBounds_toArray, List.set_cons_zero, List.set_cons_succ]
      refine wpAnyH_ready (rs := [8]) (by kernel_rfl) (by simp) ?_
      refine AllReadyH.cons rfl (fun K hK => ?_) AllReadyH.nil
      go_simp
      refine (CX.out _ H4.out.1.set.drew.vec).mono ?_; rintro e w5 ⟨rfl, hv5, hc5⟩
      go_wp2_with fail
      refine hK.out _ _ ?_ (fun hHeld => ?_)
      · (try dsimp only); (have hh := C3.blk (W := W4.drew) H4.out.2 (hc5.block P hP4 (by have := hPs.out; omega)); exact ⟨hh.1, hh.2.1, hh.2.2, (H4.out.1.set.drew.base hc5 hv5 hsw.out).c0⟩)
      clear hK K
      try simp only [Act.put, List.getElem_toArray, List.getElem_cons_zero, List.getElem_cons_succ, List.setIfInBounds_toArray, List.set_cons_zero, List.set_cons_succ]
      refine wpAnyH_done (by kernel_rfl) ?_ _
      have HF := Lib.hid (H4.out.1.drew.to (H4.out.1.set.drew.base hc5 hv5 hsw.out) (hc5.mono (fun k _ h => .inl h)))
      clear hv5 hc5 hHeld H4
      go_wp2
      go_roundw
      case rel => exact ⟨j + 1, by omega, by go_num, by rw [htk.out]; exact HF.out⟩
      case measure => simp [intOf]; omega
    · have hj' : n1 = j := by omega
      subst hj'
      have ht : MO.take n1 = MO := by rw [List.take_of_length_le (by have := HN1.out; omega)]
      have hI2 := HI.out
      rw [ht] at hI2
      have HI2 := Lib.hid hI2
      clear hI2
      clear HI ht
      generalize hM1 : rjoin M MO = M1 at *
      have HM1 := Lib.hid hM1
      clear hM1
      go_wp2_with fail
      refine (CS.out _ _ _ HI2.out.set (by have := HL.out.1.len; have := HL.out; omega)).mono ?_; rintro e w2 ⟨A2, c2, rfl, o2, b2⟩
      have H2 := Lib.hid (HI2.out.new b2 o2)
      clear o2 b2 HI2
      have hb2 : B.length ≤ 1000 := by have := HL.out.1.len; have := HL.out; omega
      generalize hn2 : B.length = n2 at *
      have HN2 := Lib.hid hn2
      clear hn2
      go_wp2_with fail
      go_loopw [40] (fun i wr => ∃ (j : Nat), j ≤ n2 ∧ i = .int .i64 j ∧ JI w s v b g so vo bo go MO BO A2 B M1 (cutJ M1 B j) wr) (fun i _ => n2 - (intOf i).toNat)
      case atStart => exact ⟨0, by omega, rfl, by rw [cutJ_zero]; exact H2.out⟩
      case round =>
        obtain ⟨j, hj, rfl, hI⟩ := hrel
        have HI := Lib.hid hI
        clear hI H2
        by_cases hlt : j < n2
        · obtain ⟨x, hx⟩ : ∃ x, B[j]? = some x := ⟨B[j]'(by have := HN2.out; omega), List.getElem?_eq_getElem _⟩
          obtain ⟨b0, o0, hA, hb0, k0, k1, k2⟩ := Ds.at_ (show Ds wr wr.heap.size A2 B from HI.out.at_) hx
          have htk := Lib.hid (And.intro (cutJ_yes (M := M1) hx) (cutJ_no (M := M1) hx))
          have hokx := Lib.hid (HL.out.1.sw.ok (List.mem_of_getElem? hx))
          have CX := Lib.hid (fun W (h : VecIs W v b M1) => CH.out x W _ h)
          obtain ⟨⟨d, i⟩, q⟩ := x
          simp only at k0 k1 k2 CX htk
          clear hx
          have H4 := Lib.hid (And.intro (HI.out.alloc (.cells #[.int .i64 d, .int .i64 i, .int .i64 q] 27)) (C3.new wr d i q 27))
          subst hA
          generalize hvh : vhasB M1 ((d, i), q) = vh at *
          go_wp2_with fail
          generalize hP : wr.heap.size = P at *
          have hPs := Lib.hid (And.intro HI.out.set.ltb HI.out.set.ltg)
          generalize (wr.alloc (.cells #[.int .i64 d, .int .i64 i, .int .i64 q] 27)) = W4 at *
          have hP4 : P < W4.heap.size := World.block_lt_of_cell? W4 _ H4.out.2.1
          refine wp_region_held_drew (S := (fun W => W.cell? ⟨P, 0, none⟩ = some (.int .i64 d) ∧ W.cell? ⟨P, 1, none⟩ = some (.int .i64 i) ∧ W.cell? ⟨P, 2, none⟩ = some (.int .i64 q) ∧ W.cell? ⟨s, 0, none⟩ = some (.pointer (some ⟨v, 0, none⟩)))) (by kernel_rfl) ?_ (fun hHeld => ?_)
          · (try dsimp only); exact ⟨H4.out.2.1, H4.out.2.2.1, H4.out.2.2.2, H4.out.1.set.c0⟩
          refine wpAnyH_take (i := 0) (v := ?_) rfl (by kernel_rfl) (by kernel_rfl) (by kernel_rfl) (fun _ _ _ h => h) (Or.inl ⟨by rfl, ?_⟩) (by assumption) ?_
          rotate_left
          first | (focus ((intro w hSw; (try dsimp only at hSw); go_simp); (try with_reducible rfl); done)) | fail
          try simp only [Act.put, List.getElem_toArray, List.getElem_cons_zero, List.setIfInBounds_toArray, List.set_cons_zero, List.set_cons_succ]
          refine wpAnyH_take (i := 1) (v := ?_) rfl (by kernel_rfl) (by kernel_rfl) (by kernel_rfl) (fun _ _ _ h => h) (Or.inl ⟨by rfl, ?_⟩) (by assumption) ?_
          rotate_left
          first | (focus ((intro w hSw; (try dsimp only at hSw); go_simp); (try with_reducible rfl); done)) | fail
          try simp only [Act.put, List.getElem_toArray, List.getElem_cons_zero, List.getElem_cons_succ, List.setIfInBounds_toArray, List.set_cons_zero, List.set_cons_succ]
          refine wpAnyH_take (i := 2) (v := ?_) rfl (by kernel_rfl) (by kernel_rfl) (by kernel_rfl) (fun _ _ _ h => h) (Or.inl ⟨by rfl, ?_⟩) (by assumption) ?_
          rotate_left
          first | (focus ((intro w hSw; (try dsimp only at hSw); go_simp); (try with_reducible rfl); done)) | fail
          try simp only [Act.put, List.getElem_toArray, List.getElem_cons_zero, List.getElem_cons_succ, List.setIfInBounds_toArray, List.set_cons_zero, List.set_cons_succ]
          refine wpAnyH_take (i := 3) (v := ?_) rfl (by kernel_rfl) (by kernel_rfl) (by kernel_rfl) (fun _ _ _ h => h) (Or.inl ⟨by rfl, ?_⟩) (by assumption) ?_
          rotate_left
          first | (focus ((intro w hSw; (try dsimp only at hSw); go_simp); (try with_reducible rfl); done)) | fail
          try simp only [Act.put, List.getElem_toArray, List.getElem_cons_zero, List.getElem_cons_succ, List.setIfInBounds_toArray, List.set_cons_zero, List.set_cons_succ]
          refine wpAnyH_take (i := 4) (v := ?_) rfl (by kernel_rfl) (by kernel_rfl) (by kernel_rfl) (fun _ _ _ h => h) (Or.inl ⟨by rfl, ?_⟩) (by assumption) ?_
          rotate_left
          first | (focus ((intro w hSw; (try dsimp only at hSw); go_simp); (try with_reducible rfl); done)) | fail
          try simp only [Act.put, List.getElem_toArray, List.getElem_cons_zero, List.getElem_cons_succ, List.setIfInBounds_toArray, List.set_cons_zero, List.set_cons_succ]
          refine wpAnyH_ready (rs := [5]) (by kernel_rfl) (by simp) ?_
          refine AllReadyH.cons rfl (fun K hK => ?_) AllReadyH.nil
          go_simp
          refine (CX.out _ H4.out.1.set.drew.vec).mono ?_; rintro e w5 ⟨rfl, b5⟩
          go_wp2_with fail
          refine hK.out _ _ ?_ (fun hHeld => ?_)
          · (try dsimp only); (have hh := C3.up (W := W4.drew) H4.out.2 hP4 b5; exact ⟨hh.1, hh.2.1, hh.2.2, (H4.out.1.drew.up b5).set.c0⟩)
          clear hK K
          try simp only [Act.put, List.getElem_toArray, List.getElem_cons_zero, List.getElem_cons_succ, List.setIfInBounds_toArray, List.set_cons_zero, List.set_cons_succ]
          refine wpAnyH_done (by kernel_rfl) ?_ _
          have H5 := Lib.hid (And.intro (H4.out.1.drew.up b5) (show C3 P d i q w5 from ⟨hHeld.1, hHeld.2.1, hHeld.2.2.1⟩))
          clear b5 hHeld H4
          cases vh
          · have hct := Lib.hid (htk.out.2 rfl)
            go_wp2
            go_roundw
            case rel => exact ⟨j + 1, by omega, by go_num, by rw [hct.out]; exact H5.out.1⟩
            case measure => simp [intOf]; omega
          · have hct := Lib.hid (htk.out.1 rfl)
            obtain ⟨w6, q6, hs6, hc6⟩ := H5.out.1.set.drew.del hokx.out 0
            rw [← hct.out] at hs6
            have H6 := Lib.hid (And.intro (H5.out.1.drew.to hs6 (hc6.mono (fun k _ h => .inr h))) (C3.blk (W := w5.drew) H5.out.2 (hc6.block P (World.block_lt_of_cell? w5 _ H5.out.2.1) (by have := hPs.out; omega))))
            have Q6 := Lib.hid q6
            unfold dtV at Q6
            simp only at Q6
            clear hs6 hc6 q6
            go_wp2_with fail
            refine wp_region_held_drew (S := (fun W => W.cell? ⟨P, 0, none⟩ = some (.int .i64 d) ∧ W.cell? ⟨P, 1, none⟩ = some (.int .i64 i) ∧ W.cell? ⟨P, 2, none⟩ = some (.int .i64 q) ∧ W.cell? ⟨s, 1, none⟩ = some (.map (some g)))) (by kernel_rfl) ?_ (fun hHeld => ?_)
            · (try dsimp only); exact ⟨H5.out.2.1, H5.out.2.2.1, H5.out.2.2.2, H5.out.1.set.c1⟩
            refine wpAnyH_take (i := 0) (v := ?_) rfl (by kernel_rfl) (by kernel_rfl) (by kernel_rfl) (fun _ _ _ h => h) (Or.inl ⟨by rfl, ?_⟩) (by assumption) ?_
            rotate_left
            first | (focus ((intro w hSw; (try dsimp only at hSw); go_simp); (try with_reducible rfl); done)) | fail
            try simp only [Act.put, List.getElem_toArray, List.getElem_cons_zero, List.setIfInBounds_toArray, List.set_cons_zero, List.set_cons_succ]
            refine wpAnyH_take (i := 1) (v := ?_) rfl (by kernel_rfl) (by kernel_rfl) (by kernel_rfl) (fun _ _ _ h => h) (Or.inl ⟨by rfl, ?_⟩) (by assumption) ?_
            rotate_left
            first | (focus ((intro w hSw; (try dsimp only at hSw); go_simp); (try with_reducible rfl); done)) | fail
            try simp only [Act.put, List.getElem_toArray, List.getElem_cons_zero, List.getElem_cons_succ, List.setIfInBounds_toArray, List.set_cons_zero, List.set_cons_succ]
            refine wpAnyH_take (i := 2) (v := ?_) rfl (by kernel_rfl) (by kernel_rfl) (by kernel_rfl) (fun _ _ _ h => h) (Or.inl ⟨by rfl, ?_⟩) (by assumption) ?_
            rotate_left
            first | (focus ((intro w hSw; (try dsimp only at hSw); go_simp); (try with_reducible rfl); done)) | fail
            try simp only [Act.put, List.getElem_toArray, List.getElem_cons_zero, List.getElem_cons_succ, List.setIfInBounds_toArray, List.set_cons_zero, List.set_cons_succ]
            refine wpAnyH_take (i := 3) (v := ?_) rfl (by kernel_rfl) (by kernel_rfl) (by kernel_rfl) (fun _ _ _ h => h) (Or.inl ⟨by rfl, ?_⟩) (by assumption) ?_
            rotate_left
            first | (focus ((intro w hSw; (try dsimp only at hSw); go_simp); (try with_reducible rfl); done)) | fail
            try simp only [Act.put, List.getElem_toArray, List.getElem_cons_zero, List.getElem_cons_succ, List.setIfInBounds_toArray, List.set_cons_zero, List.set_cons_succ]
            refine wpAnyH_take (i := 4) (v := ?_) rfl (by kernel_rfl) (by kernel_rfl) (by kernel_rfl) (fun _ _ _ h => h) (Or.inl ⟨by rfl, ?_⟩) (by assumption) ?_
            rotate_left
            first | (focus ((intro w hSw; (try dsimp only at hSw); go_simp); (try with_reducible rfl); done)) | fail
            try simp only [Act.put, List.getElem_toArray, List.getElem_cons_zero, List.getElem_cons_succ, List.setIfInBounds_toArray, List.set_cons_zero, List.set_cons_succ]
            refine wpAnyH_ready (rs := [5]) (by kernel_rfl) (by simp) ?_
            refine AllReadyH.cons rfl (fun K hK => ?_) AllReadyH.nil
            refine step_delete_run (by rfl) (.tmp 53) (.tmp 54) _ _ (by rfl) _ _ (by rfl) (by rfl) _ Q6.out ?_
            refine hK.out _ _ ?_ (fun hHeld => ?_)
            · (try dsimp only); exact ⟨H6.out.2.1, H6.out.2.2.1, H6.out.2.2.2, H6.out.1.set.c1⟩
            clear hK K
            try simp only [Act.put, List.getElem_toArray, List.getElem_cons_zero, List.getElem_cons_succ]
            refine wpAnyH_done (by kernel_rfl) ?_ _
            go_wp2
            go_roundw
            case rel => exact ⟨j + 1, by omega, by go_num, H6.out.1⟩
            case measure => simp [intOf]; omega
        · have hj' : j = n2 := by omega
          subst hj'
          have hI2 := HI.out
          rw [cutJ_all M1 B j (by have := HN2.out; omega)] at hI2
          have HI2 := Lib.hid hI2
          have hdc := Lib.hid (dis_cut M1 B HL.out.1.sw.right)
          have hb3 : (cutB M1 B).length ≤ 1000 := by
            have := List.length_filter_le (fun d => !vhasB M1 d) B
            have := HN2.out
            unfold cutB
            omega
          have HCB := Lib.hid (show cutB M1 B = cutB M1 B from rfl)
          clear HI hI2
          generalize hB2 : cutB M1 B = B2 at *
          have HB2 := Lib.hid hB2
          clear hB2 HCB
          go_wp2_with fail
          refine (CS.out _ _ _ HI2.out.set hb3).mono ?_; rintro e w3 ⟨A3, c3, rfl, o3, b3⟩
          have H3 := Lib.hid (HI2.out.new b3 o3)
          clear o3 b3 HI2
          have hokB := Lib.hid H3.out.set.sw
          generalize hn3 : B2.length = n3 at *
          have HN3 := Lib.hid hn3
          clear hn3
          go_wp2_with fail
          go_loopw [59] (fun i wr => ∃ (j : Nat) (M3 B3 : List Dt), j ≤ n3 ∧ i = .int .i64 j ∧ FI M1 B2 B2 j M3 B3 ∧ JI w s v b g so vo bo go MO BO A3 B2 M3 B3 wr) (fun i _ => n3 - (intOf i).toNat)
          case atStart => exact ⟨0, M1, B2, by omega, rfl, FI.start hdc.out, H3.out⟩
          case round =>
            obtain ⟨j, M3, B3, hj, rfl, hF, hI⟩ := hrel
            have HI := Lib.hid (And.intro hI hF)
            clear hI hF H3
            by_cases hlt : j < n3
            · obtain ⟨x, hx⟩ : ∃ x, B2[j]? = some x := ⟨B2[j]'(by have := HN3.out; omega), List.getElem?_eq_getElem _⟩
              obtain ⟨b0, o0, hA, hb0, k0, k1, k2⟩ := Ds.at_ (show Ds wr wr.heap.size A3 B2 from HI.out.1.at_) hx
              have hst := Lib.hid (fun M' B' => HI.out.2.step (M' := M') (B' := B') hx)
              have hoa : acOk x.1 := acOk_right (n := x.2) (hokB.out.right x (List.mem_of_getElem? hx))
              have CX := Lib.hid (fun W (h : SetIs W s v b g M3 B3) => CF.out x.1 hoa W M3 B3 h)
              obtain ⟨⟨d, i⟩, q⟩ := x
              simp only at k0 k1 k2 CX hst
              clear hx hoa
              have H4 := Lib.hid (And.intro (HI.out.1.alloc (.cells #[.int .i64 d, .int .i64 i, .int .i64 q] 27)) (C3.new wr d i q 27))
              subst hA
              go_wp2_with fail
              generalize hP : wr.heap.size = P at *
              generalize (wr.alloc (.cells #[.int .i64 d, .int .i64 i, .int .i64 q] 27)) = W4 at *
              refine (CX.out _ H4.out.1.set).mono ?_; rintro e w5 ⟨rfl, M5, B5, hf5, hg5, hs5, hc5⟩
              have HF := Lib.hid (And.intro (H4.out.1.to hs5 hc5) (hst.out _ _ hf5 hg5))
              clear hf5 hg5 hs5 hc5 H4
              go_wp2
              go_roundw
              case rel => exact ⟨j + 1, M5, B5, by omega, by go_num, HF.out.2, HF.out.1⟩
              case measure => simp [intOf]; omega
            · have hj' : j = n3 := by omega
              subst hj'
              have hfg := Lib.hid (show FG M1 B2 M3 B3 from ⟨HI.out.2.dis, HI.out.2.same, HI.out.2.all (by have := HN3.out; omega)⟩)
              go_wp2_with fail
              refine (CB.out _ HI.out.1.oth).mono ?_; rintro e w4 ⟨A4, c4, he, o4, b4⟩
              rw [HN1.out] at he
              subst he
              have H4 := Lib.hid (HI.out.1.new b4 o4)
              clear o4 b4 HI
              go_wp2_with fail
              go_loopw [71] (fun i wr => ∃ (j : Nat) (M4 B4 : List Dt), j ≤ n1 ∧ i = .int .i64 j ∧ FG M1 B2 M4 B4 ∧ JI w s v b g so vo bo go MO BO A4 MO M4 B4 wr) (fun i _ => n1 - (intOf i).toNat)
              case atStart => exact ⟨0, M3, B3, by omega, rfl, hfg.out, H4.out⟩
              case round =>
                obtain ⟨j', M4, B4, hj, rfl, hF, hI⟩ := hrel
                have HI := Lib.hid (And.intro hI hF)
                clear hI hF H4
                by_cases hlt : j' < n1
                · obtain ⟨x, hx⟩ : ∃ x, MO[j']? = some x := ⟨MO[j']'(by have := HN1.out; omega), List.getElem?_eq_getElem _⟩
                  obtain ⟨b0, o0, hA, hb0, k0, k1, k2⟩ := Ds.at_ (show Ds wr wr.heap.size A4 MO from HI.out.1.at_) hx
                  have hst := Lib.hid (fun M' B' => HI.out.2.step (a := x.1) (M' := M') (B' := B'))
                  have hoa : acOk x.1 := acOk_right (n := x.2) (HL.out.2.1.sw.vw.2 x (List.mem_of_getElem? hx))
                  have CX := Lib.hid (fun W (h : SetIs W s v b g M4 B4) => CF.out x.1 hoa W M4 B4 h)
                  obtain ⟨⟨d, i⟩, q⟩ := x
                  simp only at k0 k1 k2 CX hst
                  clear hx hoa
                  have H5 := Lib.hid (HI.out.1.alloc (.cells #[.int .i64 d, .int .i64 i, .int .i64 q] 33))
                  subst hA
                  go_wp2_with fail
                  generalize hP : wr.heap.size = P at *
                  generalize (wr.alloc (.cells #[.int .i64 d, .int .i64 i, .int .i64 q] 33)) = W4 at *
                  refine (CX.out _ H5.out.set).mono ?_; rintro e w5 ⟨rfl, M5, B5, hf5, hg5, hs5, hc5⟩
                  have HF := Lib.hid (And.intro (H5.out.to hs5 hc5) (hst.out _ _ hf5 hg5))
                  clear hf5 hg5 hs5 hc5 H5
                  go_wp2
                  go_roundw
                  case rel => exact ⟨j' + 1, M5, B5, by omega, by go_num, HF.out.2, HF.out.1⟩
                  case measure => simp [intOf]; omega
                · have hj2 : n1 = j' := by omega
                  subst hj2
                  have hS := Lib.hid (show SetL M4 B4 (midL (rjoin M MO) (cutB (rjoin M MO) B) L LO) from FG.setL HL.out.1 HL.out.2.1 HI.out.1.set.sw (by rw [HM1.out, HB2.out]; exact HI.out.2))
                  have hall := Lib.hid (mid_all HL.out.1 HL.out.2.1)
                  have hml := Lib.hid (show (midL (rjoin M MO) (cutB (rjoin M MO) B) L LO).length ≤ 2000 from by
                    have := mid_len (M1 := rjoin M MO) (B2 := cutB (rjoin M MO) B) (L := L) (O := LO)
                    have := HL.out
                    omega)
                  generalize midL (rjoin M MO) (cutB (rjoin M MO) B) L LO = L4 at *
                  have hb5 : BO.length ≤ 1000 := by have := HL.out.2.1.len; have := HL.out; omega
                  go_wp2_with fail
                  refine (CO.out _ HI.out.1.oth).mono ?_; rintro e w5 ⟨A5, c5, rfl, o5, b5⟩
                  have H5 := Lib.hid (HI.out.1.new b5 o5)
                  clear o5 b5 HI
                  generalize hn5 : BO.length = n5 at *
                  have HN5 := Lib.hid hn5
                  clear hn5
                  go_wp2_with fail
                  go_loopw [83] (fun i wr => ∃ (j : Nat) (M5 B5 L5 : List Dt), j ≤ n5 ∧ i = .int .i64 j ∧ L5 = (BO.take j).foldl rAdd L4 ∧ L5.length ≤ 2000 + j ∧ SetL M5 B5 L5 ∧ JI w s v b g so vo bo go MO BO A5 BO M5 B5 wr) (fun i _ => n5 - (intOf i).toNat)
                  case atStart => exact ⟨0, M4, B4, L4, by omega, rfl, rfl, by have := hml.out; omega, hS.out, H5.out⟩
                  case round =>
                    obtain ⟨j3, M5, B5, L5, hj, rfl, hL5, hl5, hS5, hI⟩ := hrel
                    have HI := Lib.hid (And.intro hI (And.intro hS5 hL5))
                    clear hI hS5 hL5 H5
                    by_cases hlt : j3 < n5
                    · obtain ⟨x, hx⟩ : ∃ x, BO[j3]? = some x := ⟨BO[j3]'(by have := HN5.out; omega), List.getElem?_eq_getElem _⟩
                      obtain ⟨b0, o0, hA, hb0, k0, k1, k2⟩ := Ds.at_ (show Ds wr wr.heap.size A5 BO from HI.out.1.at_) hx
                      have hst := Lib.hid (show rAdd L5 x = (BO.take (j3 + 1)).foldl rAdd L4 by rw [List.take_add_one, hx, List.foldl_append, ← HI.out.2.2]; rfl)
                      have hle := Lib.hid (rAdd_le HI.out.2.1.dw x)
                      have hoa : dtOk x := HL.out.2.1.sw.ok (List.mem_of_getElem? hx)
                      have CX := Lib.hid (fun W (h : SetIs W s v b g M5 B5) => CA.out x hoa W M5 B5 L5 h HI.out.2.1 (by omega))
                      obtain ⟨⟨d, i⟩, q⟩ := x
                      simp only at k0 k1 k2 CX hst hle
                      clear hx hoa
                      have H6 := Lib.hid (And.intro (HI.out.1.alloc (.cells #[.int .i64 d, .int .i64 i, .int .i64 q] 27)) (C3.new wr d i q 27))
                      subst hA
                      go_wp2_with fail
                      generalize hP : wr.heap.size = P at *
                      generalize (wr.alloc (.cells #[.int .i64 d, .int .i64 i, .int .i64 q] 27)) = W4 at *
                      refine (CX.out _ H6.out.1.set).mono ?_; rintro e w6 ⟨rfl, M6, B6, hl6, hs6, hc6⟩
                      have HF := Lib.hid (And.intro (H6.out.1.to hs6 hc6) hl6)
                      clear hl6 hs6 hc6 H6
                      go_wp2
                      go_roundw
                      case rel => exact ⟨j3 + 1, M6, B6, _, by omega, by go_num, hst.out, by have := hle.out; omega, HF.out.2, HF.out.1⟩
                      case measure => simp [intOf]; omega
                    · have hj3 : j3 = n5 := by omega
                      subst hj3
                      have hE := Lib.hid (show JoinS w s v b g (dsort (L ++ LO)) (.returned (.tuple #[])) wr from by
                        refine ⟨rfl, M5, B5, ?_, HI.out.1.set, HI.out.1.ch⟩
                        have h1 := HI.out.2.1
                        rw [HI.out.2.2, List.take_of_length_le (by have := HN5.out; omega), hall.out] at h1
                        exact h1)
                      go_wp2
                      go_end0
                      exact hE.out
theorem ssjoin_nil1 (w : World) (q : Option Addr) : Calls Try.prog 57 #[.pointer none, .pointer q] w fun e w' => e = .returned (.tuple #[]) ∧ Below w.heap.size w w' := by
  have B0 := Lib.hid (Below.refl w.heap.size w)
  go_enter Try.func57, Try.ntmps57
  go_wp2
  refine bodyPost_ret (results_none rfl _ _ _) rfl ?_
  exact ⟨rfl, B0.out⟩
theorem ssjoin_nil2 (w : World) (s : Nat) : Calls Try.prog 57 #[.pointer (some ⟨s, 0, none⟩), .pointer none] w fun e w' => e = .returned (.tuple #[]) ∧ Below w.heap.size w w' := by
  have B0 := Lib.hid (Below.refl w.heap.size w)
  go_enter Try.func57, Try.ntmps57
  go_wp2
  refine bodyPost_ret (results_none rfl _ _ _) rfl ?_
  exact ⟨rfl, B0.out⟩
end Go.Proofs.Ytailbppddnegoaa
