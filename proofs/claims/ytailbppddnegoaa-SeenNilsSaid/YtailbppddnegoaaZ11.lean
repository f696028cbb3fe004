/- Layer 18 (seen): Missing, by program and by the document. -/
import Derived.Test.YtailbppddnegoaaZ10
namespace Go.Proofs.Ytailbppddnegoaa
open Go.RowKit
set_option linter.unusedVariables false
set_option maxRecDepth 100000
attribute [local go_sem ↓] Go.wp_at_zero Go.wp_at_succ

/-- What a set of the dots L lacks of marks and of dots. -/
def missM (L MO : List Dt) : List Dt := MO.filterMap fun m => if upN L m.1 < m.2 then some (m.1, upN L m.1 + 1) else none
def missB (L BO : List Dt) : List Dt := BO.filter fun d => !decide (d ∈ L)
def missL (L MO BO : List Dt) : List Dt := missM L MO ++ missB L BO
theorem missM_step {L MO : List Dt} {j : Nat} {x : Dt} (hx : MO[j]? = some x) : missM L (MO.take (j + 1)) = missM L (MO.take j) ++ (if upN L x.1 < x.2 then [(x.1, upN L x.1 + 1)] else []) := by
  rw [List.take_add_one, hx]
  unfold missM
  rw [List.filterMap_append]
  congr 1
  simp only [Option.toList_some, List.filterMap_cons, List.filterMap_nil]
  split <;> rename_i h
  · split at h
    · cases h
    · rename_i h1; rw [if_neg h1]
  · split at h
    · rename_i h1; cases h; rw [if_pos h1]
    · cases h
theorem missB_step {L BO : List Dt} {j : Nat} {x : Dt} (hx : BO[j]? = some x) : missB L (BO.take (j + 1)) = missB L (BO.take j) ++ (if x ∈ L then [] else [x]) := by
  rw [List.take_add_one, hx]
  unfold missB
  rw [List.filter_append]
  congr 1
  by_cases h : x ∈ L <;> simp [h]
theorem missM_len (L MO : List Dt) : (missM L MO).length ≤ MO.length := List.length_filterMap_le _ _
theorem missB_len (L BO : List Dt) : (missB L BO).length ≤ BO.length := List.length_filter_le _ _
theorem miss_none {L M B MO BO : List Dt} (h : SetL M B L) (h1 : ∀ m ∈ MO, m.2 ≤ mget M m.1) (h2 : ∀ d ∈ BO, d ∈ L) : missL L MO BO = [] := by
  have e1 : missM L MO = [] := by
    unfold missM
    rw [List.filterMap_eq_nil_iff]
    intro m hm
    rw [if_neg]
    rw [h.up]
    have := h1 m hm
    omega
  have e2 : missB L BO = [] := by
    unfold missB
    rw [List.filter_eq_nil_iff]
    intro d hd
    simp [h2 d hd]
  unfold missL
  rw [e1, e2]
  rfl
/-- A joined set lacks nothing of the other one. -/
theorem miss_joined {L LO M' B' MO BO : List Dt} (h : SetL M' B' (dsort (L ++ LO))) (ho : SetL MO BO LO) : missL (dsort (L ++ LO)) MO BO = [] := by
  refine miss_none h (fun m hm => ?_) (fun d hd => ?_)
  · have hr := ho.sw.vw.2 m hm
    have hmg : mget MO m.1 = m.2 := mget_mem ho.sw.vw.1.nodup hm
    have hin : m ∈ LO := (ho.mem m).2 (.inr ⟨hr, by omega⟩)
    have h0 := (rightD_iff m).1 hr
    -- every number up to m.2 is in LO, so the joined set's base reaches it
    have hlow : ∀ j, 1 ≤ j → j ≤ m.2 → (m.1, j) ∈ dsort (L ++ LO) := fun j h1 h2 => by
      rw [mem_dsort, List.mem_append]
      exact .inr ((ho.mem _).2 (.inr ⟨ho.sw.vw.low h1 (by omega), by simp only; omega⟩))
    have hup := upN_is (dsort (L ++ LO)) m.1
    rw [h.up] at hup
    by_cases hc : m.2 ≤ mget M' m.1
    · exact hc
    · exact absurd (hlow (mget M' m.1 + 1) (by have := hup.1; omega) (by omega)) hup.2.2
  · rw [mem_dsort, List.mem_append]
    exact .inr ((ho.mem d).2 (.inl hd))
/-- One dot appended; the result lies in the same block, or in a new one. -/
theorem app1n (w : World) (base : Nat) (A : Option Addr) (n c : Nat) (L : List Dt) (hl : L.length = n) (hown : Own w base 27 3 A n c (dts L)) (x : Dt) (hlen : n ≤ 3000000000) (hbase : base ≤ w.heap.size) :
    ∃ A2 c2 w', (Builtin.append_ #[43, 43] 43 #[.slice A n c, .slice (some ⟨w.heap.size, 0, none⟩) 1 1]).run Try.prog (w.alloc (.cells #[.int .i64 x.1.1, .int .i64 x.1.2, .int .i64 x.2] 27)) = .ok (.slice A2 (n + 1) c2) w' ∧ Own w' base 27 3 A2 (n + 1) c2 (dts (L ++ [x])) ∧
      Ch (fun k => some k = bl A) w w' ∧ Below base w w' ∧ ∀ k, bl A2 = some k → bl A = some k ∨ w.heap.size ≤ k := by
  have hr : Rd (w.alloc (.cells #[.int .i64 x.1.1, .int .i64 x.1.2, .int .i64 x.2] 27)) (w.heap.size + 1) 3 (some ⟨w.heap.size, 0, none⟩) 1 (dtC x) := rd_fresh3 w x _
  obtain ⟨A2, c2, w', q, o, g, nr⟩ := appD (w.alloc (.cells #[.int .i64 x.1.1, .int .i64 x.1.2, .int .i64 x.2] 27)) base A n c (dts L) (hown.alloc _) (w.heap.size + 1) _ 1 1 (dtC x) hr (dtC_one x) (by omega) (by simp; omega)
  refine ⟨A2, c2, w', q, ?_, ?_, ?_, fun k hk => ?_⟩
  · have e : dts (L ++ [x]) = dts L ++ dtC x := by simp [dts]
    rw [e]; exact o
  · exact (Ch.alloc_ _ w _).trans (grown_ch g) (fun k _ h => h)
  · exact ((Below.refl base w).alloc hbase _).grown g (by simp; omega) hown.bl_lo
  · rcases nr with h | h
    · exact .inl (by rw [← h]; exact hk)
    · rw [h] at hk
      simp at hk
      exact .inr (by omega)
/-- What the loops of Missing keep. -/
structure MI (w : World) (N : Nat) (p q : Option Addr) (M B MO BO : List Dt) (A : Option Addr) (T : List Dt) (A3 : Option Addr) (c3 : Nat) (S : List Dt) (W : World) : Prop where
  hset : SetAt w p M B
  hoth : SetAt w q MO BO
  hN : w.heap.size = N
  at_ : MsAt W A T
  own : Own W N 27 3 A3 S.length c3 (dts S)
  bel : Below N w W
  far : ∀ k, bl A3 = some k → bl A ≠ some k
  lo : N ≤ W.heap.size
section
variable {w W W' : World} {N : Nat} {p q : Option Addr} {M B MO BO : List Dt} {A : Option Addr} {T : List Dt} {A3 : Option Addr} {c3 : Nat} {S : List Dt}
theorem MI.set (h : MI w N p q M B MO BO A T A3 c3 S W) : SetAt W p M B := h.hset.up (by rw [h.hN]; exact h.bel)
theorem MI.oth (h : MI w N p q M B MO BO A T A3 c3 S W) : SetAt W q MO BO := h.hoth.up (by rw [h.hN]; exact h.bel)
theorem MI.up (h : MI w N p q M B MO BO A T A3 c3 S W) (hb : Below W.heap.size W W') : MI w N p q M B MO BO A T A3 c3 S W' :=
  ⟨h.hset, h.hoth, h.hN, h.at_.up hb, h.own.below hb (Nat.le_refl _), h.bel.trans (below_of_le hb h.lo), h.far, Nat.le_trans h.lo hb.size⟩
theorem MI.drew (h : MI w N p q M B MO BO A T A3 c3 S W) : MI w N p q M B MO BO A T A3 c3 S W.drew := h.up (Below.drew (Below.refl _ _))
theorem MI.alloc (h : MI w N p q M B MO BO A T A3 c3 S W) (o : Obj) : MI w N p q M B MO BO A T A3 c3 S (W.alloc o) := h.up ((Below.refl _ _).alloc (Nat.le_refl _) o)
theorem MI.new {c : Nat} {e : TypeId} {A' : Option Addr} {T' : List Dt} (h : MI w N p q M B MO BO A T A3 c3 S W) (hb : Below W.heap.size W W') (ho : Own W' W.heap.size e 3 A' T'.length c (dts T')) : MI w N p q M B MO BO A' T' A3 c3 S W' :=
  ⟨h.hset, h.hoth, h.hN, MsAt.own ho, h.own.below hb (Nat.le_refl _), h.bel.trans (below_of_le hb h.lo), fun k hk e => by
    have h1 := (h.own.block_lt k (by rw [ownBlock_bl]; exact hk)).2
    have h2 := ho.bl_lo k e
    omega, Nat.le_trans h.lo hb.size⟩
theorem MI.app (h : MI w N p q M B MO BO A T A3 c3 S W) (x : Dt) (hl : S.length ≤ 1000000000) (hA : ∀ k, bl A = some k → k < W.heap.size) :
    ∃ A2 c2 w', (Builtin.append_ #[43, 43] 43 #[.slice A3 S.length c3, .slice (some ⟨W.heap.size, 0, none⟩) 1 1]).run Try.prog (W.alloc (.cells #[.int .i64 x.1.1, .int .i64 x.1.2, .int .i64 x.2] 27)) = .ok (.slice A2 (S.length + 1) c2) w' ∧
      MI w N p q M B MO BO A T A2 c2 (S ++ [x]) w' ∧ Below N W w' := by
  obtain ⟨A2, c2, w', q', o, ch, b, nr⟩ := app1n W N A3 S.length c3 S rfl h.own x (by omega) h.lo
  refine ⟨A2, c2, w', q', ⟨h.hset, h.hoth, h.hN, h.at_.ch ch (fun k hk e => h.far k e.symm hk), by simpa using o, h.bel.trans b, fun k hk e => ?_, Nat.le_trans h.lo b.size⟩, b⟩
  rcases nr k hk with h1 | h1
  · exact h.far k h1 e
  · have := hA k e
    omega
end
set_option maxHeartbeats 4000000 in
theorem ssmissing_any (w : World) (p q : Option Addr) (M B L MO BO LO : List Dt) (h : SetAt w p M B) (ho : SetAt w q MO BO) (hL : SetL M B L) (hO : SetL MO BO LO) (hlo : LO.length ≤ 1000) :
    Calls Try.prog 55 #[.pointer p, .pointer q] w (DotsEnd w (missL L MO BO)) := by
  have CB := Lib.hid (fun W (h : SetAt W q MO BO) => ssbase_any W q MO BO h)
  have CO := Lib.hid (fun W (h : SetAt W q MO BO) => sssorted_any W q MO BO h (by have := hO.len; omega))
  have CG := Lib.hid (fun (a : Ac) (ok : acOk a) W v b (h : VecIs W v b M) => vcget_any a ok W _ M h.at_)
  have CH := Lib.hid (fun (x : Dt) (ok : dtOk x) W (h : SetAt W p M B) => sshas_any x ok W p M B h)
  have HL := Lib.hid (And.intro hL (And.intro hO hlo))
  have H0 := Lib.hid (show MI w w.heap.size p q M B MO BO none [] none 0 [] w from ⟨h, ho, rfl, Rd.nil_, Own.nil_, Below.refl _ _, by simp [bl], Nat.le_refl _⟩)
  have hb1 := hO.sw.vw.len
  have hb2 : BO.length ≤ 1000 := by have := hO.len; omega
  generalize hN : w.heap.size = N at *
  unfold acV at CG
  unfold dtV at CH
  clear h ho hL hO hlo
  go_enter Try.func55, Try.ntmps55
  go_wp2_with fail
  refine (CB.out _ H0.out.oth).mono ?_; rintro e w1 ⟨A1, c1, rfl, o1, b1⟩
  have H1 := Lib.hid (H0.out.new b1 o1)
  clear o1 b1 H0
  generalize hn1 : MO.length = n1 at *
  have HN1 := Lib.hid hn1
  clear hn1
  go_wp2_with fail
  go_loopw [5, 14] (fun y i wr => ∃ (j : Nat) (A3 : Option Addr) (c3 : Nat) (S : List Dt), j ≤ n1 ∧ i = .int .i64 j ∧ S = missM L (MO.take j) ∧ S.length ≤ j ∧ y = .slice A3 S.length c3 ∧ MI w N p q M B MO BO A1 MO A3 c3 S wr) (fun _ i _ => n1 - (intOf i).toNat)
  case atStart => exact ⟨0, none, 0, [], by omega, rfl, rfl, by simp, rfl, H1.out⟩
  case round =>
    obtain ⟨j, A3, c3, S, hj, rfl, hS, hSl, rfl, hI⟩ := hrel
    have HI := Lib.hid hI
    have HS := Lib.hid hS
    clear hI H1 hS
    by_cases hlt : j < n1
    · obtain ⟨x, hx⟩ : ∃ x, MO[j]? = some x := ⟨MO[j]'(by have := HN1.out; omega), List.getElem?_eq_getElem _⟩
      obtain ⟨b0, o0, hA, hb0, k0, k1, k2⟩ := Ds.at_ (show Ds wr wr.heap.size A1 MO from HI.out.at_) hx
      have htk := missM_step (L := L) hx
      rw [← HS.out, HL.out.1.up] at htk
      have HTK := Lib.hid htk
      have hr0 := HL.out.2.1.sw.vw.2 x (List.mem_of_getElem? hx)
      have hoa : acOk x.1 := acOk_right (n := x.2) hr0
      have hq0 := HL.out.1.sw.vw.ge0 x.1
      have hq1 := HL.out.1.sw.vw.le x.1
      have CX := Lib.hid (fun W v b (h : VecIs W v b M) => CG.out x.1 hoa W v b h)
      have HX := Lib.hid hx
      obtain ⟨⟨d, i⟩, t⟩ := x
      simp only at k0 k1 k2 CX HTK hq0 hq1
      clear hx hoa htk hr0
      generalize hq : mget M (d, i) = n at *
      have HQ := Lib.hid hq
      clear hq
      have hw1 : IntKind.i64.wrap (n + 1) = n + 1 := by rw [IntKind.wrap_i64]; omega
      have H4 := Lib.hid (And.intro (HI.out.alloc (.cells #[.int .i64 d, .int .i64 i, .int .i64 t] 33)) (C3.new wr d i t 33))
      subst hA
      go_upto_if 19 with fail
      generalize hP : wr.heap.size = P at *
      generalize (wr.alloc (.cells #[.int .i64 d, .int .i64 i, .int .i64 t] 33)) = W4 at *
      have hP4 : P < W4.heap.size := World.block_lt_of_cell? W4 _ H4.out.2.1
      clear HI k0 k1 k2
      go_cut [8] from 20 to 26 (fun y wx => y = .int .i64 n ∧ C3 P d i t wx ∧ MI w N p q M B MO BO (some ⟨b0, o0, none⟩) MO A3 c3 S wx)
      case first =>
        rcases H4.out.1.set with ⟨rfl, rfl, rfl⟩ | ⟨s, v, b, g, rfl, hs⟩
        · have hz : n = 0 := by rw [← HQ.out]; rfl
          subst hz
          go_wp2
          go_meet
          exact ⟨rfl, H4.out.2, H4.out.1⟩
        · have HS4 := Lib.hid hs
          clear hs
          go_wp2_with fail
          refine wp_region_held_drew (S := (fun W => W.cell? ⟨P, 0, none⟩ = some (.int .i64 d) ∧ W.cell? ⟨P, 1, none⟩ = some (.int .i64 i) ∧ W.cell? ⟨P, 2, none⟩ = some (.int .i64 t) ∧ W.cell? ⟨s, 0, none⟩ = some (.pointer (some ⟨v, 0, none⟩)))) (by kernel_rfl) ?_ (fun hHeld => ?_)
          · (try dsimp only); exact ⟨H4.out.2.1, H4.out.2.2.1, H4.out.2.2.2, HS4.out.c0⟩
          refine wpAnyH_take (i := 0) (v := ?_) rfl (by kernel_rfl) (by kernel_rfl) (by kernel_rfl) (fun _ _ _ h => h) (Or.inl ⟨by rfl, ?_⟩) (by assumption) ?_
          rotate_left
          first | (focus ((intro w hSw; (try dsimp only at hSw); go_simp); (try with_reducible rfl); done)) | fail
          try simp only [Act.put, List.getElem_toArray, List.getElem_cons_zero, List.setIfInBounds_toArray, List.set_cons_zero, List.set_cons_succ]
          refine wpAnyH_take (i := 1) (v := ?_) rfl (by kernel_rfl) (by kernel_rfl) (by kernel_rfl) (fun _ _ _ h => h) (Or.inl ⟨by rfl, ?_⟩) (by assumption) ?_
          rotate_left
          first | (focus ((intro w hSw; (try dsimp only at hSw); go_simp); (try with_reducible rfl); done)) | fail
          try simp only [Act.put, List.getElem_toArray, List.getElem_cons_zero, List.getElem_cons_succ, List.setIfInBounds_toArray, List.set_cons_zero, List.set_cons_succ]
          refine wpAnyH_take (i := 2) (v := ?_) rfl (by kernel_rfl) (by kernel_rfl) (by kernel_rfl) (fun _ _ _ h => h) (Or.inl ⟨by rfl, ?_⟩) (by assumption) ?_
          rotate_left
          first | (focus ((intro w hSw; (try dsimp only at hSw); go_simp); (try with_reducible rfl); done)) | fail
          try simp only [Act.put, List.getElem_toArray, List.getElem_cons_zero, List.getElem_cons_succ, List.setIfInBounds_toArray, List.set_cons_zero, List.set_cons_succ]
          refine wpAnyH_take (i := 3) (v := ?_) rfl (by kernel_rfl) (by kernel_rfl) (by kernel_rfl) (fun _ _ _ h => h) (Or.inl ⟨by rfl, ?_⟩) (by assumption) ?_
          rotate_left
          first | (focus ((intro w hSw; (try dsimp only at hSw); go_simp); (try with_reducible rfl); done)) | fail
          try simp only [Act.put, List.getElem_toArray, List.getElem_cons_zero, List.getElem_cons_succ, List.setIfInBounds_toArray, List.set_cons_zero, List.set_cons_succ]
          refine wpAnyH_take (i := 4) (v := ?_) rfl (by kernel_rfl) (by kernel_rfl) (by kernel_rfl) (fun _ _ _ h => h) (Or.inl ⟨by rfl, ?_⟩) (by assumption) ?_
          rotate_left
          first | (focus ((intro w hSw; (try dsimp only at hSw); go_simp); (try with_reducible rfl); done)) | fail
          try simp only [Act.put, List.getElem_toArray, List.getElem_cons_zero, List.getElem_cons_succ, List.setIfInBounds_toArray, List.set_cons_zero, List.set_cons_succ]
          refine wpAnyH_take (i := 5) (v := ?_) rfl (by kernel_rfl) (by kernel_rfl) (by kernel_rfl) (fun _ _ _ h => h) (Or.inl ⟨by rfl, ?_⟩) (by assumption) ?_
          rotate_left
          first | (focus ((intro w hSw; (try dsimp only at hSw); go_simp); (try with_reducible rfl); done)) | fail
          try simp only [Act.put, List.getElem_toArray, List.getElem_cons_zero, List.getElem_cons_succ, List.setIfInBounds_toArray, List.set_cons_zero, List.set_cons_succ]
          refine wpAnyH_ready (rs := [6]) (by kernel_rfl) (by simp) ?_
          refine AllReadyH.cons rfl (fun K hK => ?_) AllReadyH.nil
          go_simp
          refine (CX.out _ _ _ HS4.out.drew.vec).mono ?_; rintro e w5 ⟨rfl, b5⟩
          go_wp2_with fail
          refine hK.out _ _ ?_ (fun hHeld => ?_)
          · (try dsimp only); (have hh := C3.up (W := W4.drew) H4.out.2 hP4 b5; exact ⟨hh.1, hh.2.1, hh.2.2, (HS4.out.drew.up b5).c0⟩)
          clear hK K
          try simp only [Act.put, List.getElem_toArray, List.getElem_cons_zero, List.getElem_cons_succ, List.setIfInBounds_toArray, List.set_cons_zero, List.set_cons_succ]
          refine wpAnyH_take (i := 7) (v := ?_) rfl (by kernel_rfl) (by kernel_rfl) (by kernel_rfl) (fun _ _ _ h => h) (Or.inl ⟨by rfl, ?_⟩) (by assumption) ?_
          rotate_left
          first | (focus ((intro w hSw; (try dsimp only at hSw); go_simp); (try with_reducible rfl); done)) | fail
          try simp only [Act.put, List.getElem_toArray, List.getElem_cons_zero, List.getElem_cons_succ, List.setIfInBounds_toArray, List.set_cons_zero, List.set_cons_succ]
          refine wpAnyH_done (by kernel_rfl) ?_ _
          have HF := Lib.hid (And.intro (show C3 P d i t w5 from ⟨hHeld.1, hHeld.2.1, hHeld.2.2.1⟩) (H4.out.1.drew.up b5))
          clear b5 hHeld
          go_wp2
          go_meet
          exact ⟨rfl, HF.out.1, HF.out.2⟩
      case rest =>
        obtain ⟨rfl, h3, hI⟩ := hcut
        have HC := Lib.hid (And.intro h3 hI)
        obtain ⟨k0, k1, k2⟩ := h3
        clear hI H4
        by_cases hp : n < t
        · have hs2 := Lib.hid (show S ++ [((d, i), n + 1)] = missM L (MO.take (j + 1)) by rw [HTK.out, if_pos hp])
          obtain ⟨A4, c4, w4, q4, m4, b4⟩ := HC.out.2.app ((d, i), n + 1) (by omega) (fun k hk => by
            simp [bl] at hk
            have := (Ds.at_ (show Ds wc wc.heap.size (some ⟨b0, o0, none⟩) MO from HC.out.2.at_) HX.out)
            obtain ⟨b9, o9, h9, hb9, _⟩ := this
            injection h9 with h9
            injection h9 with h9
            omega)
          have HF := Lib.hid m4
          have Q4 := Lib.hid q4
          clear m4 b4 q4
          go_wp2_with (at_builtin; refine wpList_want (by rfl) (fun K hK => wp_append_runs _ _ _ _ _ rfl _ _ rfl rfl _ _ Q4.out (hK _ _ ?_)))
          go_wp2
          go_roundw
          case rel => exact ⟨j + 1, A4, c4, S ++ [((d, i), n + 1)], by omega, by go_num, hs2.out, by simp; omega, by simp, HF.out⟩
          case measure => simp [intOf]; omega
        · have hs2 := Lib.hid (show S = missM L (MO.take (j + 1)) by rw [HTK.out, if_neg hp]; simp)
          go_wp2
          go_roundw
          case rel => exact ⟨j + 1, A3, c3, S, by omega, by go_num, hs2.out, by omega, rfl, HC.out.2⟩
          case measure => simp [intOf]; omega
    · have hj' : n1 = j := by omega
      subst hj'
      have hS1 := Lib.hid (show S = missM L MO by rw [HS.out, List.take_of_length_le (by have := HN1.out; omega)])
      clear HS
      go_wp2_with fail
      refine (CO.out _ HI.out.oth).mono ?_; rintro e w2 ⟨A2, c2, rfl, o2, b2⟩
      have H2 := Lib.hid (HI.out.new b2 o2)
      clear o2 b2 HI
      generalize hn2 : BO.length = n2 at *
      have HN2 := Lib.hid hn2
      clear hn2
      have S0L := Lib.hid hSl
      go_wp2_with fail
      go_loopw [5, 43] (fun y i wr => ∃ (j : Nat) (A4 : Option Addr) (c4 : Nat) (S1 : List Dt), j ≤ n2 ∧ i = .int .i64 j ∧ S1 = S ++ missB L (BO.take j) ∧ S1.length ≤ n1 + j ∧ y = .slice A4 S1.length c4 ∧ MI w N p q M B MO BO A2 BO A4 c4 S1 wr) (fun _ i _ => n2 - (intOf i).toNat)
      case atStart => exact ⟨0, A3, c3, S, by omega, rfl, by simp [missB], by omega, rfl, H2.out⟩
      case round =>
        obtain ⟨j, A4, c4, S1, hj, rfl, hS, hSl1, rfl, hI⟩ := hrel
        have HI := Lib.hid hI
        have HS := Lib.hid hS
        clear hI H2 hS
        by_cases hlt : j < n2
        · obtain ⟨x, hx⟩ : ∃ x, BO[j]? = some x := ⟨BO[j]'(by have := HN2.out; omega), List.getElem?_eq_getElem _⟩
          obtain ⟨b0, o0, hA, hb0, k0, k1, k2⟩ := Ds.at_ (show Ds wr wr.heap.size A2 BO from HI.out.at_) hx
          have htk := missB_step (L := L) hx
          have hoa : dtOk x := HL.out.2.1.sw.ok (List.mem_of_getElem? hx)
          have CX := CH.out x hoa
          rw [HL.out.1.has] at CX
          have CY := Lib.hid CX
          have HX := Lib.hid hx
          obtain ⟨⟨d, i⟩, t⟩ := x
          simp only at k0 k1 k2 CY
          clear CX hx hoa
          have H4 := Lib.hid (And.intro (HI.out.alloc (.cells #[.int .i64 d, .int .i64 i, .int .i64 t] 27)) (C3.new wr d i t 27))
          subst hA
          go_wp2_with fail
          generalize hP : wr.heap.size = P at *
          generalize (wr.alloc (.cells #[.int .i64 d, .int .i64 i, .int .i64 t] 27)) = W4 at *
          have hP4 : P < W4.heap.size := World.block_lt_of_cell? W4 _ H4.out.2.1
          refine (CY.out _ H4.out.1.set).mono ?_; rintro e w5 ⟨rfl, b5⟩
          have h3 := C3.up H4.out.2 hP4 b5
          have HC := Lib.hid (And.intro h3 (H4.out.1.up b5))
          clear b5 H4 h3 k0 k1 k2 HI
          obtain ⟨k0, k1, k2⟩ := HC.out.1
          by_cases hin : ((d, i), t) ∈ L
          · rw [if_pos hin] at htk
            rw [decide_eq_true hin]
            have hs2 := Lib.hid (show S1 = S ++ missB L (BO.take (j + 1)) by rw [htk, HS.out]; simp)
            clear htk hin
            go_wp2
            go_roundw
            case rel => exact ⟨j + 1, A4, c4, S1, by omega, by go_num, hs2.out, by omega, rfl, HC.out.2⟩
            case measure => simp [intOf]; omega
          · rw [if_neg hin] at htk
            rw [decide_eq_false hin]
            have hs2 := Lib.hid (show S1 ++ [((d, i), t)] = S ++ missB L (BO.take (j + 1)) by rw [htk, HS.out]; simp)
            clear htk hin
            obtain ⟨A6, c6, w6, q6, m6, b6⟩ := HC.out.2.app ((d, i), t) (by omega) (fun k hk => by
              simp [bl] at hk
              have := (Ds.at_ (show Ds w5 w5.heap.size (some ⟨b0, o0, none⟩) BO from HC.out.2.at_) HX.out)
              obtain ⟨b9, o9, h9, hb9, _⟩ := this
              injection h9 with h9
              injection h9 with h9
              omega)
            have HF := Lib.hid m6
            have Q6 := Lib.hid q6
            clear m6 b6 q6
            go_wp2_with (at_builtin; refine wpList_want (by rfl) (fun K hK => wp_append_runs _ _ _ _ _ rfl _ _ rfl rfl _ _ Q6.out (hK _ _ ?_)))
            go_wp2
            go_roundw
            case rel => exact ⟨j + 1, A6, c6, S1 ++ [((d, i), t)], by omega, by go_num, hs2.out, by simp; omega, by simp, HF.out⟩
            case measure => simp [intOf]; omega
        · have hj2 : n2 = j := by omega
          subst hj2
          have hS2 := Lib.hid (show S1 = missL L MO BO by rw [HS.out, List.take_of_length_le (by have := HN2.out; omega), hS1.out]; rfl)
          have HE := Lib.hid (show DotsEnd w (missL L MO BO) (.returned (.slice A4 S1.length c4)) wr from ⟨A4, c4, by rw [hS2.out], by have := HI.out.own; rw [hS2.out] at this; rw [hN]; exact this, by rw [hN]; exact HI.out.bel⟩)
          go_wp2
          go_ret
          exact HE.out
end Go.Proofs.Ytailbppddnegoaa
