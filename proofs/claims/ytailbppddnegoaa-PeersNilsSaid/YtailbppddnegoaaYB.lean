/- Merged: Y5, Y6, Y7. -/
import Derived.Test.YtailbppddnegoaaYA
import Derived.Test.YtailbppddnegoaaM6
import Derived.Deep.RegionLaw
import Derived.WalkLawsBesides
/- Layer 17 (vector): actors, Marks. -/
namespace Go.Proofs.Ytailbppddnegoaa
open Go.RowKit
set_option linter.unusedVariables false
set_option maxRecDepth 100000
attribute [local go_sem ↓] Go.wp_at_zero Go.wp_at_succ

/-- 'append' as a step of a region that draws, its run known. -/
theorem step_append_run {P : Program} {ops : Array Oper} {o : Oper} {a : Act} {w : World} {K : Act → World → Prop} {Q : Exit → Act → World → Prop} {E : Prop} (hg : o.guard = none) (s x : Operand) (t tn : TypeId)
    (ho : o.op = .call { callee := .builtin .append, args := #[s, x], argTypes := #[t, tn] }) (vs vx : Value) (hs : a.eval s = vs) (hx : a.eval x = vx)
    (v' : Value) (w' : World) (hr : (Builtin.append_ #[t, tn] o.type #[vs, vx]).run P w = .ok v' w') (h : K (a.put o.dst v') w') : if Region.wanted o (yielded ops a.tmps) = true then Oper.wp P o a w K Q else E := by
  have hw : Region.wanted o (yielded ops a.tmps) = true := by simp [Region.wanted, hg]
  rw [if_pos hw]
  exact wp_append_runs w s x t tn ho vs vx hs hx v' w' hr h
/-- A slice that reads as a list of actors. -/
def Acs (w : World) (B : Nat) (A : Option Addr) (L : List Ac) : Prop := Rd w B 2 A L.length (L.flatMap acC)
theorem Acs.below {w w' : World} {B : Nat} {A : Option Addr} {L : List Ac} (h : Acs w B A L) (hb : Below B w w') : Acs w' B A L := Rd.below h hb
theorem acC_len (a : Ac) : (acC a).length = 2 := rfl
theorem acs_get {L : List Ac} {i : Nat} {x : Ac} (h : L[i]? = some x) : (L.flatMap acC)[i * 2]? = some (.int .i64 x.1) ∧ (L.flatMap acC)[i * 2 + 1]? = some (.int .i64 x.2) := by
  have e := flatMap_at acC 2 acC_len L
  rw [e, e, show i * 2 / 2 = i by omega, show (i * 2 + 1) / 2 = i by omega, show i * 2 % 2 = 0 by omega, show (i * 2 + 1) % 2 = 1 by omega, h]
  exact ⟨rfl, rfl⟩
theorem Acs.at_ {w : World} {B i : Nat} {A : Option Addr} {L : List Ac} {x : Ac} (h : Acs w B A L) (hx : L[i]? = some x) : ∃ b o, A = some ⟨b, o, none⟩ ∧ b < B ∧ w.cell? ⟨b, o + i * 2, none⟩ = some (.int .i64 x.1) ∧ w.cell? ⟨b, o + i * 2 + 1, none⟩ = some (.int .i64 x.2) := by
  have hi : i < L.length := (List.getElem?_eq_some_iff.1 hx).1
  obtain ⟨b, o, hA, hb, hc⟩ := h.2 (by omega)
  obtain ⟨e0, e1⟩ := acs_get hx
  exact ⟨b, o, hA, hb, hc _ _ e0, by rw [Nat.add_assoc]; exact hc _ _ e1⟩
/-- The actors of a vector, in order. -/
def ActsEnd (w : World) (M : List Dt) (e : Ending) (w' : World) : Prop := ∃ A c, e = .returned (.slice A M.length c) ∧ M.length ≤ c ∧ c ≤ maxLen ∧ Acs w' w'.heap.size A (M.map (·.1)) ∧ (∀ k, bl A = some k → w.heap.size ≤ k) ∧ Below w.heap.size w w'
theorem vcactors_any (w : World) (p : Option Addr) (M : List Dt) (h : VecAt w p M) : Calls Try.prog 86 #[.pointer p] w (ActsEnd w M) := by
  rcases h with ⟨rfl, rfl⟩ | ⟨v, b, rfl, h⟩
  · have H := Lib.hid (show ActsEnd w [] (.returned (.slice none 0 0)) w from ⟨none, 0, rfl, Nat.le_refl _, by simp [maxLen], Rd.nil_, by simp [bl], Below.refl _ _⟩)
    go_enter Try.func86, Try.ntmps86
    go_wp2
    go_ret
    exact H.out
  · have hc := h.cell
    have CK := Lib.hid (callsIn_wide.1 (keysC_act Fence.wide 5 trivial rfl (some b) w))
    have hc4 : (w.alloc (.cells #[.map (some b)] 114)).cell? ⟨w.heap.size, 0, none⟩ = some (.map (some b)) := by rw [(Whole.new w 114 #[.map (some b)]).cell]; rfl
    have CS := Lib.hid (sortedK_act w.heap.size b M (M.map (·.1)) (w.alloc (.cells #[.map (some b)] 114)) (by simp) hc4 (h.2.1.alloc _) (by have := h.2.2.len; omega) h.2.2.1.keys (List.Perm.refl _))
    have hb4 := Lib.hid ((Below.refl w.heap.size w).alloc (Nat.le_refl _) (.cells #[.map (some b)] 114))
    clear h hc4
    go_enter Try.func86, Try.ntmps86
    go_wp2_with (first
      | (go_at_call 114; refine CK.out.mono ?_; rintro e w1 ⟨rfl, rfl⟩)
      | (go_at_call 113; refine CS.out.mono ?_; rintro e w1 ⟨A', c', rfl, o1, b1⟩))
    go_ret
    have e : (M.map (·.1)).length = M.length := by simp
    refine ⟨A', c', rfl, by rw [← e]; exact o1.2.1, o1.2.2, o1.rd, fun k hk => ?_, hb4.out.trans (below_of_le b1 (by simp))⟩
    have := (o1.block_lt k (by rw [ownBlock_bl]; exact hk)).1
    simp at this
    omega
theorem info_mk : (Try.prog.info? 33).map (fun i => (i.zero, i.size, i.bytes)) = some (some (.agg #[.int .i64 0, .int .i64 0, .int .i64 0]), 3, 24) := by kernel_rfl
/-- 'append' on marks, as a run. -/
theorem appM (w : World) (base : Nat) (A : Option Addr) (n c : Nat) (xs : List Value) (hown : Own w base 33 3 A n c xs) (B : Nat) (A' : Option Addr) (m c' : Nat) (news : List Value) (hr : Rd w B 3 A' m news) (h1 : ∀ u ∈ news, u.oneCell' = true) (hlen : n + m ≤ 4000000000) (hbase : base ≤ w.heap.size) :
    ∃ A2 c2 w', (Builtin.append_ #[22, 22] 22 #[.slice A n c, .slice A' m c']).run Try.prog w = .ok (.slice A2 (n + m) c2) w' ∧ Own w' base 33 3 A2 (n + m) c2 (xs ++ news) ∧ w.grownBy w' (bl A) ∧ Near w A A2 := by
  obtain ⟨i0, hi, hz0, hz1, hz2⟩ := info_parts info_mk
  exact run_append_rdn (P := Try.prog) w 22 22 base 33 i0 (.agg #[.int .i64 0, .int .i64 0, .int .i64 0]) 3 24 Try.underlying22 hi hz0 hz1 hz2 rfl (by decide) (by decide) A n c xs hown B A' m c' news hr h1 (by omega) hbase
theorem Own.bl_lo {w : World} {base size n c : Nat} {e : TypeId} {A : Option Addr} {xs : List Value} (h : Own w base e size A n c xs) : ∀ k, bl A = some k → base ≤ k := fun k hk => (h.block_lt k (by rw [ownBlock_bl]; exact hk)).1
/-- One mark appended, laid in a block of its own ahead of it. -/
theorem app1 (w : World) (base : Nat) (A : Option Addr) (n c : Nat) (L : List Dt) (hl : L.length = n) (hown : Own w base 33 3 A n c (dts L)) (x : Dt) (hlen : n ≤ 3000000000) (hbase : base ≤ w.heap.size) :
    ∃ A2 c2 w', (Builtin.append_ #[22, 22] 22 #[.slice A n c, .slice (some ⟨w.heap.size, 0, none⟩) 1 1]).run Try.prog (w.alloc (.cells #[.int .i64 x.1.1, .int .i64 x.1.2, .int .i64 x.2] 33)) = .ok (.slice A2 (n + 1) c2) w' ∧ Own w' base 33 3 A2 (n + 1) c2 (dts (L ++ [x])) ∧
      Ch (fun k => some k = bl A) w w' ∧ Below base w w' := by
  have hr : Rd (w.alloc (.cells #[.int .i64 x.1.1, .int .i64 x.1.2, .int .i64 x.2] 33)) (w.heap.size + 1) 3 (some ⟨w.heap.size, 0, none⟩) 1 (dtC x) :=
    ⟨rfl, fun _ => ⟨_, _, rfl, by omega, fun j u hu => by rw [(Whole.new w 33 #[.int .i64 x.1.1, .int .i64 x.1.2, .int .i64 x.2]).cell, Nat.zero_add, ← Array.getElem?_toList]; exact hu⟩⟩
  obtain ⟨A2, c2, w', q, o, g, _⟩ := appM (w.alloc (.cells #[.int .i64 x.1.1, .int .i64 x.1.2, .int .i64 x.2] 33)) base A n c (dts L) (hown.alloc _) (w.heap.size + 1) _ 1 1 (dtC x) hr (by intro u hu; simp [dtC] at hu; rcases hu with rfl | rfl | rfl <;> rfl) (by omega) (by simp; omega)
  refine ⟨A2, c2, w', q, ?_, ?_, ?_⟩
  · have e : dts (L ++ [x]) = dts L ++ dtC x := by simp [dts]
    rw [e]; exact o
  · exact (Ch.alloc_ _ w _).trans (grown_ch g) (fun k _ h => h)
  · exact ((Below.refl base w).alloc hbase _).grown g (by simp; omega) hown.bl_lo
/-- What a round reads: an actor in block P, and its number in the map in block b of the vector in block v. -/
def LkS (P v b : Nat) (d i s : Int) (W : World) : Prop := W.cell? ⟨P, 0, none⟩ = some (.int .i64 d) ∧ W.cell? ⟨P, 1, none⟩ = some (.int .i64 i) ∧ W.cell? ⟨v, 0, none⟩ = some (.map (some b)) ∧
  (Instr.lookup 114 (.map (some b)) (.agg #[.int .i64 d, .int .i64 i]) false).run Try.prog W = .ok (.int .i64 s) W
theorem LkS.mk_ {P v b : Nat} {d i s : Int} {W : World} {M : List Dt} (hW : Whole W P 25 #[.int .i64 d, .int .i64 i]) (hv : VecIs W v b M) (ok : acOk (d, i)) (hg : mget M (d, i) = s) : LkS P v b d i s W :=
  ⟨by rw [hW.cell]; rfl, by rw [hW.cell]; rfl, hv.cell, by have := hv.look ok; rw [hg] at this; exact this⟩
/-- The marks of a vector. -/
def MarksEnd (w : World) (M : List Dt) (e : Ending) (w' : World) : Prop := ∃ A c, e = .returned (.slice A M.length c) ∧ Own w' w.heap.size 33 3 A M.length c (dts M) ∧ Below w.heap.size w w'
set_option maxHeartbeats 1000000 in
theorem vcmarks_in (w : World) (v b : Nat) (M : List Dt) (h : VecIs w v b M) : Calls Try.prog 23 #[.pointer (some ⟨v, 0, none⟩)] w (MarksEnd w M) := by
  have CA := Lib.hid (vcactors_any w _ M h.at_)
  have HV := Lib.hid h
  have hn := h.2.2.len
  have hlen : M.length = M.length := rfl
  generalize hlen' : M.length = n at *
  have HL := Lib.hid hlen'
  generalize hN : w.heap.size = N at *
  clear hlen hlen' h
  go_enter Try.func23, Try.ntmps23
  go_wp2_with fail
  refine CA.out.mono ?_; rintro e w1 ⟨A, c, he, hc1, hc2, hA, hblA, hb1⟩
  rw [HL.out] at he hc1
  subst he
  have HA := Lib.hid hA
  have B1 := Lib.hid (hN ▸ hb1 : Below N w w1)
  have hv1 := HV.out.up hb1
  have HV1 := Lib.hid hv1
  have hlv := hv1.ltv
  have hlb := hv1.ltb
  generalize hN1 : w1.heap.size = N1 at *
  have H0 := Lib.hid (Own.nil_ : Own w1 N1 33 3 none 0 0 (dts (M.take 0)))
  have R0 := Lib.hid (Below.refl N1 w1)
  have hNN := B1.out.size
  clear hA hc2 hblA hb1 CA hv1 HV
  go_wp2_with fail
  go_loopw [3, 9] (fun y i wr => ∃ (j : Nat) (A3 : Option Addr) (c3 : Nat), j ≤ n ∧ i = .int .i64 j ∧ y = .slice A3 j c3 ∧ Own wr N1 33 3 A3 j c3 (dts (M.take j)) ∧ Below N1 w1 wr) (fun _ i _ => n - (intOf i).toNat)
  case atStart => exact ⟨0, none, 0, by omega, rfl, rfl, H0.out, R0.out⟩
  case round =>
    obtain ⟨j, A3, c3, hj, rfl, rfl, hO, hb⟩ := hrel
    have HO := Lib.hid (And.intro hO hb)
    clear hO hb H0 R0
    by_cases hlt : j < n
    · obtain ⟨x, hx⟩ : ∃ x, M[j]? = some x := ⟨M[j]'(by have := HL.out; omega), List.getElem?_eq_getElem _⟩
      have hxa : (M.map (·.1))[j]? = some x.1 := by rw [List.getElem?_map, hx]; rfl
      obtain ⟨b0, o0, hAe, hb0, c0, c1⟩ := (HA.out.below HO.out.2).at_ hxa
      have hgm : mget M x.1 = x.2 := mget_mem HV1.out.2.2.1.nodup (List.mem_of_getElem? hx)
      have hok : acOk x.1 := acOk_right (n := x.2) (HV1.out.2.2.2 x (List.mem_of_getElem? hx))
      have hNl : N1 ≤ wr.heap.size := by have := HO.out.2.size; omega
      obtain ⟨⟨d, i⟩, s⟩ := x
      simp only at c0 c1 hgm hok
      have HH := Lib.hid (And.intro (HO.out.1.alloc (.cells #[.int .i64 d, .int .i64 i] 25)) (And.intro (HO.out.2.alloc hNl (.cells #[.int .i64 d, .int .i64 i] 25)) (Whole.new wr 25 #[.int .i64 d, .int .i64 i])))
      have htk := Lib.hid (show M.take (j + 1) = M.take j ++ [((d, i), s)] by rw [List.take_add_one, hx]; rfl)
      have hlj := Lib.hid (show (M.take j).length = j by rw [List.length_take]; have := HL.out; omega)
      clear hx hxa
      subst hAe
      go_wp2_with fail
      obtain ⟨hO4, hb4, hW4⟩ := HH.out
      generalize hP : wr.heap.size = P at *
      generalize (wr.alloc (.cells #[.int .i64 d, .int .i64 i] 25)) = W4 at *
      have hv4 : VecIs W4 v b M := HV1.out.below hb4 hlv hlb
      have hblA : bl A3 ≠ some P := fun e => by
        have := (HO.out.1.block_lt P (by rw [ownBlock_bl]; exact e)).2
        omega
      obtain ⟨A5, c5, w5, q5, o5, ch5, b5⟩ := app1 W4.drew N1 A3 j c3 (M.take j) hlj.out hO4.drew ((d, i), s) (by omega) (by have := hb4.size; show N1 ≤ W4.heap.size; omega)
      have hv5 : VecIs w5 v b M := VecIs.below hv4.drew b5 hlv hlb
      have hW5 : Whole w5 P 25 #[.int .i64 d, .int .i64 i] := Whole.ch hW4.drew ch5 (fun e => hblA e.symm)
      have HF := Lib.hid (And.intro o5 (hb4.drew.trans b5))
      have HW := Lib.hid (And.intro hW4 (And.intro hv4 (And.intro hW5 hv5)))
      clear hO4 hb4 hW4 hv4 hblA o5 ch5 b5 hv5 hW5 HH HA
      refine wp_region_held_drew (S := (fun W => W.cell? ⟨P, 0, none⟩ = some (.int .i64 d) ∧ W.cell? ⟨P, 1, none⟩ = some (.int .i64 i) ∧ W.cell? ⟨v, 0, none⟩ = some (.map (some b)) ∧ (Instr.lookup 114 (.map (some b)) (.agg #[.int .i64 d, .int .i64 i]) false).run Try.prog W = .ok (.int .i64 s) W)) (by kernel_rfl) ?_ (fun hHeld => ?_)
      · (try dsimp only); exact LkS.mk_ HW.out.1.drew HW.out.2.1.drew hok hgm
      refine wpAnyH_take (i := 0) (v := ?_) rfl (by kernel_rfl) (by kernel_rfl) (by kernel_rfl) (fun _ _ _ h => h) (Or.inl ⟨by rfl, ?_⟩) (by assumption) ?_
      rotate_left
      first | (focus ((intro w hSw; (try dsimp only at hSw); go_simp); (try with_reducible rfl); done)) | fail
      try simp only [Act.put, List.getElem_toArray, List.getElem_cons_zero, List.setIfInBounds_toArray, List.set_cons_zero, List.set_cons_succ]
      refine wpAnyH_take (i := 1) (v := ?_) rfl (by kernel_rfl) (by kernel_rfl) (by kernel_rfl) (fun _ _ _ h => h) (Or.inl ⟨by rfl, ?_⟩) (by assumption) ?_
      rotate_left
      first | (focus ((intro w hSw; (try dsimp only at hSw); go_simp); (try with_reducible rfl); done)) | fail
      try simp only [Act.put, List.getElem_toArray, List.getElem_cons_zero, List.getElem_cons_succ, List.setIfInBounds_toArray, List.set_cons_zero, List.set_cons_succ]
      refine wpAnyH_take (i := 2) (v := ?_) rfl (by kernel_rfl) (by kernel_rfl) (by kernel_rfl) (fun _ _ _ h => h) (Or.inl ⟨by rfl, ?_⟩) (by assumption) ?_
      rotate_left
      first | (focus ((intro w hSw; (try dsimp only at hSw); go_simp); (try with_reducible rfl); done)) | fail
      try simp only [Act.put, List.getElem_toArray, List.getElem_cons_zero, List.getElem_cons_succ, List.setIfInBounds_toArray, List.set_cons_zero, List.set_cons_succ]
      refine wpAnyH_take (i := 3) (v := ?_) rfl (by kernel_rfl) (by kernel_rfl) (by kernel_rfl) (fun _ _ _ h => h) (Or.inl ⟨by rfl, ?_⟩) (by assumption) ?_
      rotate_left
      first | (focus ((intro w hSw; (try dsimp only at hSw); go_simp); (try with_reducible rfl); done)) | fail
      try simp only [Act.put, List.getElem_toArray, List.getElem_cons_zero, List.getElem_cons_succ, List.setIfInBounds_toArray, List.set_cons_zero, List.set_cons_succ]
      refine wpAnyH_take (i := 4) (v := ?_) rfl (by kernel_rfl) (by kernel_rfl) (by kernel_rfl) (fun _ _ _ h => h) (Or.inl ⟨by rfl, ?_⟩) (by assumption) ?_
      rotate_left
      first | (focus ((intro w hSw; (try dsimp only at hSw); go_simp); (try with_reducible rfl); done)) | fail
      try simp only [Act.put, List.getElem_toArray, List.getElem_cons_zero, List.getElem_cons_succ, List.setIfInBounds_toArray, List.set_cons_zero, List.set_cons_succ]
      refine wpAnyH_take (i := 5) (v := ?_) rfl (by kernel_rfl) (by kernel_rfl) (by kernel_rfl) (fun _ _ _ h => h) (Or.inl ⟨by rfl, ?_⟩) (by assumption) ?_
      rotate_left
      first | (focus ((intro w hSw; (try dsimp only at hSw); go_simp); (try with_reducible rfl); done)) | fail
      try simp only [Act.put, List.getElem_toArray, List.getElem_cons_zero, List.getElem_cons_succ, List.setIfInBounds_toArray, List.set_cons_zero, List.set_cons_succ]
      refine wpAnyH_take (i := 6) (v := ?_) rfl (by kernel_rfl) (by kernel_rfl) (by kernel_rfl) (fun _ _ _ h => h) (Or.inl ⟨by rfl, ?_⟩) (by assumption) ?_
      rotate_left
      first | (focus ((intro w hSw; (try dsimp only at hSw); go_simp); (try with_reducible rfl); done)) | fail
      try simp only [Act.put, List.getElem_toArray, List.getElem_cons_zero, List.getElem_cons_succ, List.setIfInBounds_toArray, List.set_cons_zero, List.set_cons_succ]
      refine wpAnyH_take (i := 7) (v := ?_) rfl (by kernel_rfl) (by kernel_rfl) (by kernel_rfl) (fun _ _ _ h => h) (Or.inl ⟨by rfl, ?_⟩) (by assumption) ?_
      rotate_left
      first | (focus ((intro w hSw; (try dsimp only at hSw); go_simp); (try with_reducible rfl); done)) | fail
      try simp only [Act.put, List.getElem_toArray, List.getElem_cons_zero, List.getElem_cons_succ, List.setIfInBounds_toArray, List.set_cons_zero, List.set_cons_succ]
      refine wpAnyH_take (i := 8) (v := ?_) rfl (by kernel_rfl) (by kernel_rfl) (by kernel_rfl) (fun _ _ _ h => h) (Or.inl ⟨by rfl, ?_⟩) (by assumption) ?_
      rotate_left
      first | (focus ((intro w hSw; (try dsimp only at hSw); go_simp); (try with_reducible rfl); done)) | fail
      try simp only [Act.put, List.getElem_toArray, List.getElem_cons_zero, List.getElem_cons_succ, List.setIfInBounds_toArray, List.set_cons_zero, List.set_cons_succ]
      refine wpAnyH_ready (rs := [9]) (by kernel_rfl) (by simp) ?_
      refine AllReadyH.cons rfl (fun K hK => ?_) AllReadyH.nil
      go_simp
      refine hK.out _ _ ?_ (fun hHeld => ?_)
      · (try dsimp only); exact LkS.mk_ (HW.out.1.drew.alloc _) (HW.out.2.1.drew.alloc _) hok hgm
      clear hK K
      try simp only [Act.put, List.getElem_toArray, List.getElem_cons_zero, List.getElem_cons_succ, List.setIfInBounds_toArray, List.set_cons_zero, List.set_cons_succ]
      refine wpAnyH_ready (rs := [10]) (by kernel_rfl) (by simp) ?_
      refine AllReadyH.cons rfl (fun K hK => ?_) AllReadyH.nil
      refine step_append_run (by rfl) (.tmp 13) (.tmp 22) _ _ (by rfl) _ _ (by rfl) (by rfl) _ _ q5 ?_
      refine hK.out _ _ ?_ (fun hHeld => ?_)
      · (try dsimp only); exact LkS.mk_ HW.out.2.2.1 HW.out.2.2.2 hok hgm
      clear hK K
      try simp only [Act.put, List.getElem_toArray, List.getElem_cons_zero, List.getElem_cons_succ, List.setIfInBounds_toArray, List.set_cons_zero, List.set_cons_succ]
      refine wpAnyH_take (i := 11) (v := ?_) rfl (by kernel_rfl) (by kernel_rfl) (by kernel_rfl) (fun _ _ _ h => h) (Or.inl ⟨by rfl, ?_⟩) (by assumption) ?_
      rotate_left
      first | (focus ((intro w hSw; (try dsimp only at hSw); go_simp); (try with_reducible rfl); done)) | fail
      try simp only [Act.put, List.getElem_toArray, List.getElem_cons_zero, List.getElem_cons_succ, List.setIfInBounds_toArray, List.set_cons_zero, List.set_cons_succ]
      refine wpAnyH_done (by kernel_rfl) ?_ _
      go_wp2
      go_roundw
      case rel => exact ⟨j + 1, A5, c5, by omega, by go_num, rfl, by rw [htk.out]; exact HF.out.1, HF.out.2⟩
      case measure => simp [intOf]; omega
    · have hj' : j = n := by omega
      subst hj'
      have ht := Lib.hid (show M.take j = M by rw [List.take_of_length_le (by have := HL.out; omega)])
      clear HA
      go_wp2
      go_ret
      have ho := HO.out.1
      rw [ht.out] at ho
      exact ⟨A3, c3, by rw [HL.out]; rfl, by rw [HL.out, hN]; exact ho.base_le (by omega), by rw [hN]; exact B1.out.trans (below_of_le HO.out.2 (by omega))⟩
theorem vcmarks_nil (w : World) : Calls Try.prog 23 #[.pointer none] w (MarksEnd w []) := by
  have CA := Lib.hid (vcactors_any w _ [] (VecAt.nil w))
  generalize hN : w.heap.size = N at *
  go_enter Try.func23, Try.ntmps23
  go_wp2_with fail
  refine CA.out.mono ?_; rintro e w1 ⟨A, c, rfl, hc1, hc2, hA, hblA, hb1⟩
  have HE := Lib.hid (show MarksEnd w [] (.returned (.slice none 0 0)) w1 from ⟨none, 0, rfl, Own.nil_, hb1⟩)
  clear CA hA hblA hb1
  go_wp2_with fail
  refine wp_loop_rounds 1 ?_
  rw [rounds_succ]
  go_wp2
  go_ret
  exact HE.out
theorem vcmarks_any (w : World) (p : Option Addr) (M : List Dt) (h : VecAt w p M) : Calls Try.prog 23 #[.pointer p] w (MarksEnd w M) := by
  rcases h with ⟨rfl, rfl⟩ | ⟨v, b, rfl, h⟩
  · exact vcmarks_nil w
  · exact vcmarks_in w v b M h
end Go.Proofs.Ytailbppddnegoaa
/- Layer 17 (vector): Join, Copy. -/
namespace Go.Proofs.Ytailbppddnegoaa
open Go.RowKit
set_option linter.unusedVariables false
set_option maxRecDepth 100000
attribute [local go_sem ↓] Go.wp_at_zero Go.wp_at_succ

/-- What joining leaves: the map's block alone has changed. -/
def JoinEnd (w : World) (v b : Nat) (M : List Dt) (e : Ending) (w' : World) : Prop := e = .returned (.tuple #[]) ∧ VecIs w' v b M ∧ Ch (fun k => k = b) w w'
theorem Acs.ch {S : Nat → Prop} {w w' : World} {B : Nat} {A : Option Addr} {L : List Ac} (r : Acs w B A L) (hB : B ≤ w.heap.size) (h : Ch S w w') (hS : ∀ k, k < B → bl A = some k → ¬ S k) : Acs w' B A L := Rd.ch r hB h hS
set_option maxHeartbeats 1000000 in
theorem vcjoin_in (w : World) (v b u b' : Nat) (M O : List Dt) (h : VecIs w v b M) (ho : VecIs w u b' O) (hne : b' ≠ b) :
    Calls Try.prog 36 #[.pointer (some ⟨v, 0, none⟩), .pointer (some ⟨u, 0, none⟩)] w (JoinEnd w v b (rjoin M O)) := by
  have CA := Lib.hid (vcactors_any w _ O ho.at_)
  have CR := Lib.hid (fun (a : Ac) (n : Int) (W : World) (M : List Dt) (hW : VecIs W v b M) => vcraise_any a n W v b M hW)
  have hub : u ≠ b := by
    rintro rfl
    obtain ⟨es, clock, hb, _⟩ := h.2.1.1
    have h1 := ho.1
    unfold Whole at h1
    rw [h1] at hb
    cases hb
  have HV := Lib.hid (And.intro h ho)
  have hn := ho.2.2.len
  generalize hlen' : O.length = n at *
  have HL := Lib.hid hlen'
  generalize hN : w.heap.size = N at *
  clear hlen' h ho
  unfold acV at CR
  go_enter Try.func36, Try.ntmps36
  go_wp2_with fail
  refine CA.out.mono ?_; rintro e w1 ⟨A, c, he, hc1, hc2, hA, hblA, hb1⟩
  rw [HL.out] at he hc1
  subst he
  have HA := Lib.hid (And.intro hA hblA)
  have B1 := Lib.hid (hN ▸ hb1 : Below N w w1)
  have HV1 := Lib.hid (And.intro (HV.out.1.up hb1) (HV.out.2.up hb1))
  have hlb := HV.out.1.ltb
  generalize hN1 : w1.heap.size = N1 at *
  have R0 := Lib.hid (And.intro (show VecIs w1 v b (rjoin M (O.take 0)) from HV1.out.1) (Ch.refl (fun k => k = b) w1))
  have hNN := B1.out.size
  clear hA hc2 hblA hb1 CA HV
  go_wp2_with fail
  go_loopw [9] (fun i wr => ∃ (j : Nat), j ≤ n ∧ i = .int .i64 j ∧ VecIs wr v b (rjoin M (O.take j)) ∧ Ch (fun k => k = b) w1 wr) (fun i _ => n - (intOf i).toNat)
  case atStart => exact ⟨0, by omega, rfl, R0.out⟩
  case round =>
    obtain ⟨j, hj, rfl, hO⟩ := hrel
    have HO := Lib.hid hO
    clear hO R0
    by_cases hlt : j < n
    · obtain ⟨x, hx⟩ : ∃ x, O[j]? = some x := ⟨O[j]'(by have := HL.out; omega), List.getElem?_eq_getElem _⟩
      have hxa : (O.map (·.1))[j]? = some x.1 := by rw [List.getElem?_map, hx]; rfl
      obtain ⟨b0, o0, hAe, hb0, c0, c1⟩ := (HA.out.1.ch (by rw [hN1]; exact Nat.le_refl _) HO.out.2 (fun k _ hk e => by have := HA.out.2 k hk; omega)).at_ hxa
      have hgm : mget O x.1 = x.2 := mget_mem HV1.out.2.2.2.1.nodup (List.mem_of_getElem? hx)
      have hok : acOk x.1 := acOk_right (n := x.2) (HV1.out.2.2.2.2 x (List.mem_of_getElem? hx))
      obtain ⟨⟨d, i⟩, s⟩ := x
      simp only at c0 c1 hgm hok
      have hv := HO.out.1.alloc (.cells #[.int .i64 d, .int .i64 i] 25)
      have hu := (HV1.out.2.ch HO.out.2 hub hne).alloc (.cells #[.int .i64 d, .int .i64 i] 25)
      have hch := HO.out.2.trans (Ch.alloc_ (fun k => k = b) wr (.cells #[.int .i64 d, .int .i64 i] 25)) (fun k _ h => h)
      have hbr : b < wr.heap.size := HO.out.1.ltb
      have HH := Lib.hid (And.intro hv (And.intro hu (And.intro hch (Whole.new wr 25 #[.int .i64 d, .int .i64 i]))))
      have htk := Lib.hid (show rjoin M (O.take (j + 1)) = rraise (rjoin M (O.take j)) (d, i) s by rw [List.take_add_one, hx]; exact rjoin_snoc _ _ _)
      clear hx hxa hv hu hch
      have cr := fun W hW => CR.out (d, i) s W (rjoin M (O.take j)) hW
      have CX := Lib.hid cr
      clear cr
      subst hAe
      go_wp2_with fail
      obtain ⟨hv4, hu4, hch4, hW4⟩ := HH.out
      generalize hP : wr.heap.size = P at *
      generalize (wr.alloc (.cells #[.int .i64 d, .int .i64 i] 25)) = W4 at *
      have HW := Lib.hid (And.intro hv4 (And.intro hu4 (And.intro hch4 hW4)))
      have hPb : P ≠ b := by omega
      clear hv4 hu4 hch4 hW4 HH HA
      refine wp_region_held_drew (S := (fun W => W.cell? ⟨P, 0, none⟩ = some (.int .i64 d) ∧ W.cell? ⟨P, 1, none⟩ = some (.int .i64 i) ∧ W.cell? ⟨u, 0, none⟩ = some (.map (some b')) ∧ (Instr.lookup 114 (.map (some b')) (.agg #[.int .i64 d, .int .i64 i]) false).run Try.prog W = .ok (.int .i64 s) W)) (by kernel_rfl) ?_ (fun hHeld => ?_)
      · (try dsimp only); exact LkS.mk_ HW.out.2.2.2.drew HW.out.2.1.drew hok hgm
      refine wpAnyH_take (i := 0) (v := ?_) rfl (by kernel_rfl) (by kernel_rfl) (by kernel_rfl) (fun _ _ _ h => h) (Or.inl ⟨by rfl, ?_⟩) (by assumption) ?_
      rotate_left
      first | (focus ((intro w hSw; (try dsimp only at hSw); go_simp); (try with_reducible rfl); done)) | fail
      try simp only [Act.put, List.getElem_toArray, List.getElem_cons_zero, List.setIfInBounds_toArray, List.set_cons_zero, List.set_cons_succ]
      refine wpAnyH_take (i := 1) (v := ?_) rfl (by kernel_rfl) (by kernel_rfl) (by kernel_rfl) (fun _ _ _ h => h) (Or.inl ⟨by rfl, ?_⟩) (by assumption) ?_
      rotate_left
      first | (focus ((intro w hSw; (try dsimp only at hSw); go_simp); (try with_reducible rfl); done)) | fail
      try simp only [Act.put, List.getElem_toArray, List.getElem_cons_zero, List.getElem_cons_succ, List.setIfInBounds_toArray, List.set_cons_zero, List.set_cons_succ]
      refine wpAnyH_take (i := 2) (v := ?_) rfl (by kernel_rfl) (by kernel_rfl) (by kernel_rfl) (fun _ _ _ h => h) (Or.inl ⟨by rfl, ?_⟩) (by assumption) ?_
      rotate_left
      first | (focus ((intro w hSw; (try dsimp only at hSw); go_simp); (try with_reducible rfl); done)) | fail
      try simp only [Act.put, List.getElem_toArray, List.getElem_cons_zero, List.getElem_cons_succ, List.setIfInBounds_toArray, List.set_cons_zero, List.set_cons_succ]
      refine wpAnyH_take (i := 3) (v := ?_) rfl (by kernel_rfl) (by kernel_rfl) (by kernel_rfl) (fun _ _ _ h => h) (Or.inl ⟨by rfl, ?_⟩) (by assumption) ?_
      rotate_left
      first | (focus ((intro w hSw; (try dsimp only at hSw); go_simp); (try with_reducible rfl); done)) | fail
      try simp only [Act.put, List.getElem_toArray, List.getElem_cons_zero, List.getElem_cons_succ, List.setIfInBounds_toArray, List.set_cons_zero, List.set_cons_succ]
      refine wpAnyH_take (i := 4) (v := ?_) rfl (by kernel_rfl) (by kernel_rfl) (by kernel_rfl) (fun _ _ _ h => h) (Or.inl ⟨by rfl, ?_⟩) (by assumption) ?_
      rotate_left
      first | (focus ((intro w hSw; (try dsimp only at hSw); go_simp); (try with_reducible rfl); done)) | fail
      try simp only [Act.put, List.getElem_toArray, List.getElem_cons_zero, List.getElem_cons_succ, List.setIfInBounds_toArray, List.set_cons_zero, List.set_cons_succ]
      refine wpAnyH_take (i := 5) (v := ?_) rfl (by kernel_rfl) (by kernel_rfl) (by kernel_rfl) (fun _ _ _ h => h) (Or.inl ⟨by rfl, ?_⟩) (by assumption) ?_
      rotate_left
      first | (focus ((intro w hSw; (try dsimp only at hSw); go_simp); (try with_reducible rfl); done)) | fail
      try simp only [Act.put, List.getElem_toArray, List.getElem_cons_zero, List.getElem_cons_succ, List.setIfInBounds_toArray, List.set_cons_zero, List.set_cons_succ]
      refine wpAnyH_take (i := 6) (v := ?_) rfl (by kernel_rfl) (by kernel_rfl) (by kernel_rfl) (fun _ _ _ h => h) (Or.inl ⟨by rfl, ?_⟩) (by assumption) ?_
      rotate_left
      first | (focus ((intro w hSw; (try dsimp only at hSw); go_simp); (try with_reducible rfl); done)) | fail
      try simp only [Act.put, List.getElem_toArray, List.getElem_cons_zero, List.getElem_cons_succ, List.setIfInBounds_toArray, List.set_cons_zero, List.set_cons_succ]
      refine wpAnyH_take (i := 7) (v := ?_) rfl (by kernel_rfl) (by kernel_rfl) (by kernel_rfl) (fun _ _ _ h => h) (Or.inl ⟨by rfl, ?_⟩) (by assumption) ?_
      rotate_left
      first | (focus ((intro w hSw; (try dsimp only at hSw); go_simp); (try with_reducible rfl); done)) | fail
      try simp only [Act.put, List.getElem_toArray, List.getElem_cons_zero, List.getElem_cons_succ, List.setIfInBounds_toArray, List.set_cons_zero, List.set_cons_succ]
      refine wpAnyH_ready (rs := [8]) (by kernel_rfl) (by simp) ?_
      refine AllReadyH.cons rfl (fun K hK => ?_) AllReadyH.nil
      go_simp
      refine (CX.out _ HW.out.1.drew).mono ?_; rintro e w5 ⟨rfl, hv5, hc5⟩
      go_wp2_with fail
      refine hK.out _ _ ?_ (fun hHeld => ?_)
      · (try dsimp only); exact LkS.mk_ (Whole.ch HW.out.2.2.2.drew hc5 hPb) (VecIs.ch HW.out.2.1.drew hc5 hub hne) hok hgm
      clear hK K
      try simp only [Act.put, List.getElem_toArray, List.getElem_cons_zero, List.getElem_cons_succ, List.setIfInBounds_toArray, List.set_cons_zero, List.set_cons_succ]
      have HF := Lib.hid (And.intro hv5 ((HW.out.2.2.1.drew).trans hc5 (fun k _ h => h)))
      clear hv5 hc5
      refine wpAnyH_done (by kernel_rfl) ?_ _
      go_wp2
      go_roundw
      case rel => exact ⟨j + 1, by omega, by go_num, by rw [htk.out]; exact HF.out.1, HF.out.2⟩
      case measure => simp [intOf]; omega
    · have hj' : j = n := by omega
      subst hj'
      have ht := Lib.hid (show O.take j = O by rw [List.take_of_length_le (by have := HL.out; omega)])
      clear HA
      go_wp2
      go_end0
      have hf := HO.out
      rw [ht.out] at hf
      exact ⟨rfl, hf.1, (below_ch (by rw [hN]; exact B1.out)).trans hf.2 (fun k _ h => h)⟩
theorem vcjoin_onil (w : World) (p : Option Addr) :
    Calls Try.prog 36 #[.pointer p, .pointer none] w fun e w' => e = .returned (.tuple #[]) ∧ Below w.heap.size w w' := by
  have CA := Lib.hid (vcactors_any w _ [] (VecAt.nil w))
  generalize hN : w.heap.size = N at *
  go_enter Try.func36, Try.ntmps36
  go_wp2_with fail
  refine CA.out.mono ?_; rintro e w1 ⟨A, c, rfl, hc1, hc2, hA, hblA, hb1⟩
  have HE := Lib.hid (hN ▸ hb1 : Below N w w1)
  clear CA hA hblA hb1
  go_wp2_with fail
  refine wp_loop_rounds 1 ?_
  rw [rounds_succ]
  go_wp2
  go_end0
  exact ⟨rfl, HE.out⟩
set_option maxHeartbeats 1000000 in
theorem vcjoin_vnil (w : World) (u b' : Nat) (O : List Dt) (ho : VecIs w u b' O) :
    Calls Try.prog 36 #[.pointer none, .pointer (some ⟨u, 0, none⟩)] w fun e w' => e = .returned (.tuple #[]) ∧ Below w.heap.size w w' := by
  have CA := Lib.hid (vcactors_any w _ O ho.at_)
  have CR := Lib.hid (fun (a : Ac) (n : Int) (W : World) => vcraise_nil a n W)
  have HV := Lib.hid ho
  have hn := ho.2.2.len
  generalize hlen' : O.length = n at *
  have HL := Lib.hid hlen'
  generalize hN : w.heap.size = N at *
  clear hlen' ho
  unfold acV at CR
  go_enter Try.func36, Try.ntmps36
  go_wp2_with fail
  refine CA.out.mono ?_; rintro e w1 ⟨A, c, he, hc1, hc2, hA, hblA, hb1⟩
  rw [HL.out] at he hc1
  subst he
  have HA := Lib.hid hA
  have B1 := Lib.hid (hN ▸ hb1 : Below N w w1)
  have HV1 := Lib.hid (HV.out.up hb1)
  have hlv := HV1.out.ltv
  have hlb := HV1.out.ltb
  generalize hN1 : w1.heap.size = N1 at *
  have R0 := Lib.hid (Below.refl N1 w1)
  have hNN := B1.out.size
  clear hA hc2 hblA hb1 CA HV
  go_wp2_with fail
  go_loopw [9] (fun i wr => ∃ (j : Nat), j ≤ n ∧ i = .int .i64 j ∧ Below N1 w1 wr) (fun i _ => n - (intOf i).toNat)
  case atStart => exact ⟨0, by omega, rfl, R0.out⟩
  case round =>
    obtain ⟨j, hj, rfl, hO⟩ := hrel
    have HO := Lib.hid hO
    clear hO R0
    by_cases hlt : j < n
    · obtain ⟨x, hx⟩ : ∃ x, O[j]? = some x := ⟨O[j]'(by have := HL.out; omega), List.getElem?_eq_getElem _⟩
      have hxa : (O.map (·.1))[j]? = some x.1 := by rw [List.getElem?_map, hx]; rfl
      obtain ⟨b0, o0, hAe, hb0, c0, c1⟩ := (HA.out.below HO.out).at_ hxa
      have hgm : mget O x.1 = x.2 := mget_mem HV1.out.2.2.1.nodup (List.mem_of_getElem? hx)
      have hok : acOk x.1 := acOk_right (n := x.2) (HV1.out.2.2.2 x (List.mem_of_getElem? hx))
      have hNl : N1 ≤ wr.heap.size := by have := HO.out.size; omega
      obtain ⟨⟨d, i⟩, s⟩ := x
      simp only at c0 c1 hgm hok
      have HH := Lib.hid (And.intro (HO.out.alloc hNl (.cells #[.int .i64 d, .int .i64 i] 25)) (Whole.new wr 25 #[.int .i64 d, .int .i64 i]))
      have CX := Lib.hid (fun W => CR.out (d, i) s W)
      clear hx hxa
      subst hAe
      go_wp2_with fail
      obtain ⟨hb4, hW4⟩ := HH.out
      generalize hP : wr.heap.size = P at *
      generalize (wr.alloc (.cells #[.int .i64 d, .int .i64 i] 25)) = W4 at *
      have HW := Lib.hid (And.intro hb4 (And.intro (HV1.out.below hb4 hlv hlb) hW4))
      have hN4 : N1 ≤ W4.heap.size := by have := hb4.size; omega
      clear hb4 hW4 HH HA
      refine wp_region_held_drew (S := (fun W => W.cell? ⟨P, 0, none⟩ = some (.int .i64 d) ∧ W.cell? ⟨P, 1, none⟩ = some (.int .i64 i) ∧ W.cell? ⟨u, 0, none⟩ = some (.map (some b')) ∧ (Instr.lookup 114 (.map (some b')) (.agg #[.int .i64 d, .int .i64 i]) false).run Try.prog W = .ok (.int .i64 s) W)) (by kernel_rfl) ?_ (fun hHeld => ?_)
      · (try dsimp only); exact LkS.mk_ HW.out.2.2.drew HW.out.2.1.drew hok hgm
      refine wpAnyH_take (i := 0) (v := ?_) rfl (by kernel_rfl) (by kernel_rfl) (by kernel_rfl) (fun _ _ _ h => h) (Or.inl ⟨by rfl, ?_⟩) (by assumption) ?_
      rotate_left
      first | (focus ((intro w hSw; (try dsimp only at hSw); go_simp); (try with_reducible rfl); done)) | fail
      try simp only [Act.put, List.getElem_toArray, List.getElem_cons_zero, List.setIfInBounds_toArray, List.set_cons_zero, List.set_cons_succ]
      refine wpAnyH_take (i := 1) (v := ?_) rfl (by kernel_rfl) (by kernel_rfl) (by kernel_rfl) (fun _ _ _ h => h) (Or.inl ⟨by rfl, ?_⟩) (by assumption) ?_
      rotate_left
      first | (focus ((intro w hSw; (try dsimp only at hSw); go_simp); (try with_reducible rfl); done)) | fail
      try simp only [Act.put, List.getElem_toArray, List.getElem_cons_zero, List.getElem_cons_succ, List.setIfInBounds_toArray, List.set_cons_zero, List.set_cons_succ]
      refine wpAnyH_take (i := 2) (v := ?_) rfl (by kernel_rfl) (by kernel_rfl) (by kernel_rfl) (fun _ _ _ h => h) (Or.inl ⟨by rfl, ?_⟩) (by assumption) ?_
      rotate_left
      first | (focus ((intro w hSw; (try dsimp only at hSw); go_simp); (try with_reducible rfl); done)) | fail
      try simp only [Act.put, List.getElem_toArray, List.getElem_cons_zero, List.getElem_cons_succ, List.setIfInBounds_toArray, List.set_cons_zero, List.set_cons_succ]
      refine wpAnyH_take (i := 3) (v := ?_) rfl (by kernel_rfl) (by kernel_rfl) (by kernel_rfl) (fun _ _ _ h => h) (Or.inl ⟨by rfl, ?_⟩) (by assumption) ?_
      rotate_left
      first | (focus ((intro w hSw; (try dsimp only at hSw); go_simp); (try with_reducible rfl); done)) | fail
      try simp only [Act.put, List.getElem_toArray, List.getElem_cons_zero, List.getElem_cons_succ, List.setIfInBounds_toArray, List.set_cons_zero, List.set_cons_succ]
      refine wpAnyH_take (i := 4) (v := ?_) rfl (by kernel_rfl) (by kernel_rfl) (by kernel_rfl) (fun _ _ _ h => h) (Or.inl ⟨by rfl, ?_⟩) (by assumption) ?_
      rotate_left
      first | (focus ((intro w hSw; (try dsimp only at hSw); go_simp); (try with_reducible rfl); done)) | fail
      try simp only [Act.put, List.getElem_toArray, List.getElem_cons_zero, List.getElem_cons_succ, List.setIfInBounds_toArray, List.set_cons_zero, List.set_cons_succ]
      refine wpAnyH_take (i := 5) (v := ?_) rfl (by kernel_rfl) (by kernel_rfl) (by kernel_rfl) (fun _ _ _ h => h) (Or.inl ⟨by rfl, ?_⟩) (by assumption) ?_
      rotate_left
      first | (focus ((intro w hSw; (try dsimp only at hSw); go_simp); (try with_reducible rfl); done)) | fail
      try simp only [Act.put, List.getElem_toArray, List.getElem_cons_zero, List.getElem_cons_succ, List.setIfInBounds_toArray, List.set_cons_zero, List.set_cons_succ]
      refine wpAnyH_take (i := 6) (v := ?_) rfl (by kernel_rfl) (by kernel_rfl) (by kernel_rfl) (fun _ _ _ h => h) (Or.inl ⟨by rfl, ?_⟩) (by assumption) ?_
      rotate_left
      first | (focus ((intro w hSw; (try dsimp only at hSw); go_simp); (try with_reducible rfl); done)) | fail
      try simp only [Act.put, List.getElem_toArray, List.getElem_cons_zero, List.getElem_cons_succ, List.setIfInBounds_toArray, List.set_cons_zero, List.set_cons_succ]
      refine wpAnyH_take (i := 7) (v := ?_) rfl (by kernel_rfl) (by kernel_rfl) (by kernel_rfl) (fun _ _ _ h => h) (Or.inl ⟨by rfl, ?_⟩) (by assumption) ?_
      rotate_left
      first | (focus ((intro w hSw; (try dsimp only at hSw); go_simp); (try with_reducible rfl); done)) | fail
      try simp only [Act.put, List.getElem_toArray, List.getElem_cons_zero, List.getElem_cons_succ, List.setIfInBounds_toArray, List.set_cons_zero, List.set_cons_succ]
      refine wpAnyH_ready (rs := [8]) (by kernel_rfl) (by simp) ?_
      refine AllReadyH.cons rfl (fun K hK => ?_) AllReadyH.nil
      go_simp
      refine (CX.out _).mono ?_; rintro e w5 ⟨rfl, b5⟩
      go_wp2_with fail
      refine hK.out _ _ ?_ (fun hHeld => ?_)
      · (try dsimp only); exact LkS.mk_ (Whole.below HW.out.2.2.drew b5 HW.out.2.2.lt) (VecIs.up HW.out.2.1.drew b5) hok hgm
      clear hK K
      try simp only [Act.put, List.getElem_toArray, List.getElem_cons_zero, List.getElem_cons_succ, List.setIfInBounds_toArray, List.set_cons_zero, List.set_cons_succ]
      have HF := Lib.hid (HW.out.1.drew.trans (below_of_le b5 hN4))
      clear b5
      refine wpAnyH_done (by kernel_rfl) ?_ _
      go_wp2
      go_roundw
      case rel => exact ⟨j + 1, by omega, by go_num, HF.out⟩
      case measure => simp [intOf]; omega
    · have hj' : j = n := by omega
      subst hj'
      clear HA
      go_wp2
      go_end0
      exact ⟨rfl, B1.out.trans (below_of_le HO.out (by omega))⟩
theorem rjoin_nil {M : List Dt} (h : Vw M) : rjoin [] M = M := vw_ext (Vw.nil.join M) h fun c => by
  have h0 := h.ge0 c
  rw [mget_join Vw.nil h.1 h.ro]
  show max 0 (mget M c) = mget M c
  omega
/-- A vector that the call has made. -/
def NewVec (w : World) (M : List Dt) (e : Ending) (w' : World) : Prop := ∃ v b, e = .returned (.pointer (some ⟨v, 0, none⟩)) ∧ w.heap.size ≤ v ∧ w.heap.size ≤ b ∧ VecIs w' v b M ∧ Below w.heap.size w w'
theorem vccopy_any (w : World) (p : Option Addr) (M : List Dt) (h : VecAt w p M) : Calls Try.prog 33 #[.pointer p] w (NewVec w M) := by
  have CN := Lib.hid (vcnew_any w)
  rcases h with ⟨rfl, rfl⟩ | ⟨v, b, rfl, h⟩
  · have CJ := Lib.hid (fun W p => vcjoin_onil W p)
    go_enter Try.func33, Try.ntmps33
    go_wp2_with fail
    refine CN.out.mono ?_; rintro e w1 ⟨rfl, hv, hb⟩
    have H1 := Lib.hid (And.intro hv hb)
    clear hv hb
    go_wp2_with fail
    refine (CJ.out _ _).mono ?_; rintro e w2 ⟨rfl, b2⟩
    have HE := Lib.hid (show NewVec w [] (.returned (.pointer (some ⟨w.heap.size + 1, 0, none⟩))) w2 from ⟨_, _, rfl, by omega, Nat.le_refl _, H1.out.1.up b2, H1.out.2.trans (below_of_le b2 H1.out.2.size)⟩)
    clear b2
    go_wp2
    go_ret
    exact HE.out
  · have HV := Lib.hid h
    have hlb := h.ltb
    have CJ := Lib.hid (fun W v' b' (h1 : VecIs W v' b' []) (h2 : VecIs W v b M) (hne : b ≠ b') => vcjoin_in W v' b' v b [] M h1 h2 hne)
    have hM := rjoin_nil h.2.2
    rw [hM] at CJ
    clear h hM
    go_enter Try.func33, Try.ntmps33
    go_wp2_with fail
    refine CN.out.mono ?_; rintro e w1 ⟨rfl, hv, hb⟩
    have H1 := Lib.hid (And.intro hv hb)
    clear hv hb
    go_wp2_with fail
    refine (CJ.out _ _ _ H1.out.1 (HV.out.up H1.out.2) (by omega)).mono ?_; rintro e w2 ⟨rfl, hv2, hc2⟩
    have HE := Lib.hid (show NewVec w M (.returned (.pointer (some ⟨w.heap.size + 1, 0, none⟩))) w2 from ⟨_, _, rfl, by omega, Nat.le_refl _, hv2, H1.out.2.trans (hc2.below (fun k hk e => by have e' : k = w.heap.size := e; omega) H1.out.2.size)⟩)
    clear hv2 hc2
    go_wp2
    go_ret
    exact HE.out
end Go.Proofs.Ytailbppddnegoaa
/- Layer 17 (vector): Meet, Covers, Sum. -/
namespace Go.Proofs.Ytailbppddnegoaa
open Go.RowKit
set_option linter.unusedVariables false
set_option maxRecDepth 100000
attribute [local go_sem ↓] Go.wp_at_zero Go.wp_at_succ

theorem VecAt.keep {w w' : World} {p : Option Addr} {M : List Dt} (h : VecAt w p M) (hb : Below w.heap.size w w') : VecAt w' p M := h.up hb
def meetF (M O : List Dt) (x : Dt) : Dt := (x.1, min (mget M x.1) (mget O x.1))
theorem pmeet_def (M O : List Dt) : pmeet M O = rjoin [] (M.map (meetF M O)) := rfl
/-- Two whole numbers in block N. -/
def C2 (N : Nat) (d i : Int) (W : World) : Prop := W.cell? ⟨N, 0, none⟩ = some (.int .i64 d) ∧ W.cell? ⟨N, 1, none⟩ = some (.int .i64 i)
theorem C2.mk_ {P : Nat} {d i : Int} {W : World} {t : TypeId} (hW : Whole W P t #[.int .i64 d, .int .i64 i]) : C2 P d i W := ⟨by rw [hW.cell]; rfl, by rw [hW.cell]; rfl⟩
set_option maxHeartbeats 1000000 in
theorem vcmeet_in (w : World) (v b : Nat) (q : Option Addr) (M O : List Dt) (h : VecIs w v b M) (ho : VecAt w q O) :
    Calls Try.prog 34 #[.pointer (some ⟨v, 0, none⟩), .pointer q] w (NewVec w (pmeet M O)) := by
  have CN := Lib.hid (vcnew_any w)
  have CA := Lib.hid (fun W hW => vcactors_any W (some ⟨v, 0, none⟩) M hW)
  have CG := Lib.hid (fun (a : Ac) (ok : acOk a) (W : World) hW => vcget_any a ok W (some ⟨v, 0, none⟩) M hW)
  have CO := Lib.hid (fun (a : Ac) (ok : acOk a) (W : World) hW => vcget_any a ok W q O hW)
  have CR := Lib.hid (fun (a : Ac) (n : Int) (W : World) (M : List Dt) v b (hW : VecIs W v b M) => vcraise_any a n W v b M hW)
  have HV := Lib.hid (And.intro h.at_ ho)
  have hvw := Lib.hid h.2.2
  have hn := h.2.2.len
  generalize hlen' : M.length = n at *
  have HL := Lib.hid hlen'
  generalize hN : w.heap.size = N at *
  clear hlen' h ho
  unfold acV at CR CG CO
  go_enter Try.func34, Try.ntmps34
  go_wp2_with fail
  refine CN.out.mono ?_; rintro e w1 ⟨rfl, hv1, hb1⟩
  have H1 := Lib.hid (And.intro hv1 hb1)
  have hz1 : N + 2 ≤ w1.heap.size := by have := hv1.ltv; omega
  clear hv1 hb1 CN
  go_wp2_with fail
  refine (CA.out _ (HV.out.1.up (by rw [hN]; exact H1.out.2))).mono ?_; rintro e w2 ⟨A, c, he, hc1, hc2, hA, hblA, hb2⟩
  rw [HL.out] at he hc1
  subst he
  have HA := Lib.hid (And.intro hA hblA)
  have hN2 := hb2.size
  have R0 := Lib.hid (And.intro (show VecIs w2 (N + 1) N (rjoin [] ((M.take 0).map (meetF M O))) from H1.out.1.up hb2) (And.intro (Ch.refl (fun k => k = N) w2) (H1.out.2.trans (below_of_le hb2 (by omega)))))
  clear hA hc2 hblA hb2 CA H1
  go_wp2_with fail
  go_loopw [12] (fun i wr => ∃ (j : Nat), j ≤ n ∧ i = .int .i64 j ∧ VecIs wr (N + 1) N (rjoin [] ((M.take j).map (meetF M O))) ∧ Ch (fun k => k = N) w2 wr ∧ Below N w wr) (fun i _ => n - (intOf i).toNat)
  case atStart => exact ⟨0, by omega, rfl, R0.out⟩
  case round =>
    obtain ⟨j, hj, rfl, hO⟩ := hrel
    have HO := Lib.hid hO
    clear hO R0
    by_cases hlt : j < n
    · obtain ⟨x, hx⟩ : ∃ x, M[j]? = some x := ⟨M[j]'(by have := HL.out; omega), List.getElem?_eq_getElem _⟩
      have hxa : (M.map (·.1))[j]? = some x.1 := by rw [List.getElem?_map, hx]; rfl
      obtain ⟨b0, o0, hAe, hb0, c0, c1⟩ := (HA.out.1.ch (Nat.le_refl _) HO.out.2.1 (fun k _ hk e => by have := HA.out.2 k hk; omega)).at_ hxa
      have hok : acOk x.1 := acOk_right (n := x.2) (hvw.out.2 x (List.mem_of_getElem? hx))
      have htk := Lib.hid (show rjoin [] ((M.take (j + 1)).map (meetF M O)) = rraise (rjoin [] ((M.take j).map (meetF M O))) x.1 (min (mget M x.1) (mget O x.1)) by rw [List.take_add_one, hx, List.map_append]; exact rjoin_snoc _ _ (meetF M O x))
      obtain ⟨⟨d, i⟩, s⟩ := x
      simp only at c0 c1 hok
      have hNr : N < wr.heap.size := HO.out.1.ltb
      have HH := Lib.hid (And.intro (HO.out.1.alloc (.cells #[.int .i64 d, .int .i64 i] 25)) (And.intro (HO.out.2.1.trans (Ch.alloc_ (fun k => k = N) wr (.cells #[.int .i64 d, .int .i64 i] 25)) (fun k _ h => h)) (And.intro (HO.out.2.2.alloc (by omega) (.cells #[.int .i64 d, .int .i64 i] 25)) (Whole.new wr 25 #[.int .i64 d, .int .i64 i]))))
      have CX := Lib.hid (fun n W hW => CR.out (d, i) n W (rjoin [] ((M.take j).map (meetF M O))) (N + 1) N hW)
      have CY := Lib.hid (fun W hW => CG.out (d, i) hok W hW)
      have CZ := Lib.hid (fun W hW => CO.out (d, i) hok W hW)
      clear hx hxa
      subst hAe
      generalize mget M (d, i) = qa at *
      generalize mget O (d, i) = qb at *
      go_wp2_with fail
      obtain ⟨hv4, hch4, hb4, hW4⟩ := HH.out
      generalize hP : wr.heap.size = P at *
      generalize (wr.alloc (.cells #[.int .i64 d, .int .i64 i] 25)) = W4 at *
      have HW := Lib.hid (And.intro hv4 (And.intro hch4 (And.intro hb4 hW4)))
      have hP4 : P < W4.heap.size := hW4.lt
      clear hv4 hch4 hb4 hW4 HH HA
      refine wp_region_held_drew (S := (fun W => W.cell? ⟨P, 0, none⟩ = some (.int .i64 d) ∧ W.cell? ⟨P, 1, none⟩ = some (.int .i64 i))) (by kernel_rfl) ?_ (fun hHeld => ?_)
      · (try dsimp only); exact C2.mk_ HW.out.2.2.2.drew
      refine wpAnyH_take (i := 0) (v := ?_) rfl (by kernel_rfl) (by kernel_rfl) (by kernel_rfl) (fun _ _ _ h => h) (Or.inl ⟨by rfl, ?_⟩) (by assumption) ?_
      rotate_left
      first | (focus ((intro w hSw; (try dsimp only at hSw); go_simp); (try with_reducible rfl); done)) | fail
      try simp only [Act.put, List.getElem_toArray, List.getElem_cons_zero, List.setIfInBounds_toArray, List.set_cons_zero, List.set_cons_succ]
      refine wpAnyH_take (i := 1) (v := ?_) rfl (by kernel_rfl) (by kernel_rfl) (by kernel_rfl) (fun _ _ _ h => h) (Or.inl ⟨by rfl, ?_⟩) (by assumption) ?_
      rotate_left
      first | (focus ((intro w hSw; (try dsimp only at hSw); go_simp); (try with_reducible rfl); done)) | fail
      try simp only [Act.put, List.getElem_toArray, List.getElem_cons_zero, List.getElem_cons_succ, List.setIfInBounds_toArray, List.set_cons_zero, List.set_cons_succ]
      refine wpAnyH_take (i := 2) (v := ?_) rfl (by kernel_rfl) (by kernel_rfl) (by kernel_rfl) (fun _ _ _ h => h) (Or.inl ⟨by rfl, ?_⟩) (by assumption) ?_
      rotate_left
      first | (focus ((intro w hSw; (try dsimp only at hSw); go_simp); (try with_reducible rfl); done)) | fail
      try simp only [Act.put, List.getElem_toArray, List.getElem_cons_zero, List.getElem_cons_succ, List.setIfInBounds_toArray, List.set_cons_zero, List.set_cons_succ]
      refine wpAnyH_take (i := 3) (v := ?_) rfl (by kernel_rfl) (by kernel_rfl) (by kernel_rfl) (fun _ _ _ h => h) (Or.inl ⟨by rfl, ?_⟩) (by assumption) ?_
      rotate_left
      first | (focus ((intro w hSw; (try dsimp only at hSw); go_simp); (try with_reducible rfl); done)) | fail
      try simp only [Act.put, List.getElem_toArray, List.getElem_cons_zero, List.getElem_cons_succ, List.setIfInBounds_toArray, List.set_cons_zero, List.set_cons_succ]
      refine wpAnyH_take (i := 5) (v := ?_) rfl (by kernel_rfl) (by kernel_rfl) (by kernel_rfl) (fun _ _ _ h => h) (Or.inl ⟨by rfl, ?_⟩) (by assumption) ?_
      rotate_left
      first | (focus ((intro w hSw; (try dsimp only at hSw); go_simp); (try with_reducible rfl); done)) | fail
      try simp only [Act.put, List.getElem_toArray, List.getElem_cons_zero, List.getElem_cons_succ, List.setIfInBounds_toArray, List.set_cons_zero, List.set_cons_succ]
      refine wpAnyH_take (i := 6) (v := ?_) rfl (by kernel_rfl) (by kernel_rfl) (by kernel_rfl) (fun _ _ _ h => h) (Or.inl ⟨by rfl, ?_⟩) (by assumption) ?_
      rotate_left
      first | (focus ((intro w hSw; (try dsimp only at hSw); go_simp); (try with_reducible rfl); done)) | fail
      try simp only [Act.put, List.getElem_toArray, List.getElem_cons_zero, List.getElem_cons_succ, List.setIfInBounds_toArray, List.set_cons_zero, List.set_cons_succ]
      refine wpAnyH_ready (rs := [4]) (by kernel_rfl) (by simp) ?_
      refine AllReadyH.cons rfl (fun K hK => ?_) AllReadyH.nil
      go_simp
      refine (CY.out _ (HV.out.1.up (by rw [hN]; exact HW.out.2.2.1.drew))).mono ?_; rintro e w5 ⟨rfl, b5⟩
      go_wp2_with fail
      refine hK.out _ _ ?_ (fun hHeld => ?_)
      · (try dsimp only); exact C2.mk_ (Whole.below HW.out.2.2.2.drew b5 hP4)
      clear hK K
      try simp only [Act.put, List.getElem_toArray, List.getElem_cons_zero, List.getElem_cons_succ, List.setIfInBounds_toArray, List.set_cons_zero, List.set_cons_succ]
      have HW5 := Lib.hid (And.intro (VecIs.up HW.out.1.drew b5) (And.intro (HW.out.2.1.drew.trans (below_ch (S := fun k => k = N) b5) (fun k _ h => h)) (And.intro (HW.out.2.2.1.drew.trans (below_of_le b5 (by show N ≤ W4.heap.size; omega))) (Whole.below HW.out.2.2.2.drew b5 hP4))))
      have hz5 : P < w5.heap.size := HW5.out.2.2.2.lt
      clear b5 HW
      refine wpAnyH_ready (rs := [7]) (by kernel_rfl) (by simp) ?_
      refine AllReadyH.cons rfl (fun K hK => ?_) AllReadyH.nil
      go_simp
      refine (CZ.out _ (HV.out.2.up (by rw [hN]; exact HW5.out.2.2.1))).mono ?_; rintro e w6 ⟨rfl, b6⟩
      go_wp2_with fail
      refine hK.out _ _ ?_ (fun hHeld => ?_)
      · (try dsimp only); exact C2.mk_ (Whole.below HW5.out.2.2.2 b6 hz5)
      clear hK K
      try simp only [Act.put, List.getElem_toArray, List.getElem_cons_zero, List.getElem_cons_succ, List.setIfInBounds_toArray, List.set_cons_zero, List.set_cons_succ]
      have HW6 := Lib.hid (And.intro (VecIs.up HW5.out.1 b6) (And.intro (HW5.out.2.1.trans (below_ch (S := fun k => k = N) b6) (fun k _ h => h)) (And.intro (HW5.out.2.2.1.trans (below_of_le b6 (by omega))) (Whole.below HW5.out.2.2.2 b6 hz5))))
      have hz6 : P < w6.heap.size := HW6.out.2.2.2.lt
      clear b6 HW5
      refine wpAnyH_ready (rs := [8]) (by kernel_rfl) (by simp) ?_
      refine AllReadyH.cons rfl (fun K hK => ?_) AllReadyH.nil
      go_simp
      refine hK.out _ _ ?_ (fun hHeld => ?_)
      · (try dsimp only); exact C2.mk_ HW6.out.2.2.2
      clear hK K
      try simp only [Act.put, List.getElem_toArray, List.getElem_cons_zero, List.getElem_cons_succ, List.setIfInBounds_toArray, List.set_cons_zero, List.set_cons_succ]
      refine wpAnyH_ready (rs := [9]) (by kernel_rfl) (by simp) ?_
      refine AllReadyH.cons rfl (fun K hK => ?_) AllReadyH.nil
      go_simp
      refine (CX.out _ _ HW6.out.1).mono ?_; rintro e w7 ⟨rfl, hv7, hc7⟩
      go_wp2_with fail
      refine hK.out _ _ ?_ (fun hHeld => ?_)
      · (try dsimp only); exact C2.mk_ (Whole.ch HW6.out.2.2.2 hc7 (by omega))
      clear hK K
      try simp only [Act.put, List.getElem_toArray, List.getElem_cons_zero, List.getElem_cons_succ, List.setIfInBounds_toArray, List.set_cons_zero, List.set_cons_succ]
      have HF := Lib.hid (And.intro hv7 (And.intro (HW6.out.2.1.trans hc7 (fun k _ h => h)) (HW6.out.2.2.1.trans (hc7.below (fun k hk e => by have e' : k = N := e; omega) (by omega)))))
      clear hv7 hc7
      refine wpAnyH_done (by kernel_rfl) ?_ _
      go_wp2
      go_roundw
      case rel => exact ⟨j + 1, by omega, by go_num, by rw [htk.out]; exact HF.out.1, HF.out.2⟩
      case measure => simp [intOf]; omega
    · have hj' : j = n := by omega
      subst hj'
      have ht := Lib.hid (show M.take j = M by rw [List.take_of_length_le (by have := HL.out; omega)])
      have HE := Lib.hid (show NewVec w (pmeet M O) (.returned (.pointer (some ⟨N + 1, 0, none⟩))) wr from ⟨N + 1, N, rfl, by omega, by omega, by rw [pmeet_def]; have := HO.out.1; rw [ht.out] at this; exact this, by rw [hN]; exact HO.out.2.2⟩)
      clear HA
      go_wp2
      go_ret
      exact HE.out
theorem vcmeet_vnil (w : World) (q : Option Addr) :
    Calls Try.prog 34 #[.pointer none, .pointer q] w (NewVec w []) := by
  have CN := Lib.hid (vcnew_any w)
  have CA := Lib.hid (fun W => vcactors_any W none [] (VecAt.nil W))
  generalize hN : w.heap.size = N at *
  go_enter Try.func34, Try.ntmps34
  go_wp2_with fail
  refine CN.out.mono ?_; rintro e w1 ⟨rfl, hv1, hb1⟩
  have H1 := Lib.hid (And.intro hv1 hb1)
  clear hv1 hb1 CN
  go_wp2_with fail
  refine (CA.out _).mono ?_; rintro e w2 ⟨A, c, rfl, hc1, hc2, hA, hblA, hb2⟩
  have HE := Lib.hid (show NewVec w [] (.returned (.pointer (some ⟨N + 1, 0, none⟩))) w2 from ⟨N + 1, N, rfl, by omega, by omega, H1.out.1.up hb2, by rw [hN]; exact H1.out.2.trans (below_of_le hb2 (by have := H1.out.2.size; omega))⟩)
  clear CA hA hblA hb2 H1
  go_wp2_with fail
  refine wp_loop_rounds 1 ?_
  rw [rounds_succ]
  go_wp2
  go_ret
  exact HE.out
theorem vcmeet_any (w : World) (p q : Option Addr) (M O : List Dt) (h : VecAt w p M) (ho : VecAt w q O) :
    Calls Try.prog 34 #[.pointer p, .pointer q] w (NewVec w (rmeet M O)) := by
  rcases h with ⟨rfl, rfl⟩ | ⟨v, b, rfl, h⟩
  · exact vcmeet_vnil w q
  · rw [← pmeet_eq h.2.2 ho.vw]
    exact vcmeet_in w v b q M O h ho
set_option maxHeartbeats 1000000 in
theorem vccovers_in (w : World) (q : Option Addr) (v b : Nat) (M O : List Dt) (h : VecAt w q O) (ho : VecIs w v b M) :
    Calls Try.prog 35 #[.pointer q, .pointer (some ⟨v, 0, none⟩)] w fun e w' => e = .returned (.bool (rcov O M)) ∧ Below w.heap.size w w' := by
  have CA := Lib.hid (vcactors_any w _ M ho.at_)
  have CG := Lib.hid (fun (a : Ac) (ok : acOk a) (W : World) hW => vcget_any a ok W q O hW)
  have HV := Lib.hid ho
  have HQ := Lib.hid h
  have hn := ho.2.2.len
  generalize hlen' : M.length = n at *
  have HL := Lib.hid hlen'
  generalize hN : w.heap.size = N at *
  clear hlen' h ho
  unfold acV at CG
  go_enter Try.func35, Try.ntmps35
  go_wp2_with fail
  refine CA.out.mono ?_; rintro e w1 ⟨A, c, he, hc1, hc2, hA, hblA, hb1⟩
  rw [HL.out] at he hc1
  subst he
  have HA := Lib.hid hA
  have B1 := Lib.hid (hN ▸ hb1 : Below N w w1)
  have hv1 := HV.out.up hb1
  have HV1 := Lib.hid hv1
  have HQ1 := Lib.hid (HQ.out.up hb1)
  have hlv := hv1.ltv
  have hlb := hv1.ltb
  generalize hN1 : w1.heap.size = N1 at *
  have R0 := Lib.hid (Below.refl N1 w1)
  have hNN := B1.out.size
  clear hA hc2 hblA hb1 CA hv1 HV HQ
  go_wp2_with fail
  go_loopw [10] (fun i wr => ∃ (j : Nat), j ≤ n ∧ i = .int .i64 j ∧ rcov O (M.take j) = true ∧ Below N1 w1 wr) (fun i _ => n - (intOf i).toNat)
  case atStart => exact ⟨0, by omega, rfl, rfl, R0.out⟩
  case round =>
    obtain ⟨j, hj, rfl, hcv, hb⟩ := hrel
    have HO := Lib.hid (And.intro hb hcv)
    clear hb R0 hcv
    by_cases hlt : j < n
    · obtain ⟨x, hx⟩ : ∃ x, M[j]? = some x := ⟨M[j]'(by have := HL.out; omega), List.getElem?_eq_getElem _⟩
      have hxa : (M.map (·.1))[j]? = some x.1 := by rw [List.getElem?_map, hx]; rfl
      obtain ⟨b0, o0, hAe, hb0, c0, c1⟩ := (HA.out.below HO.out.1).at_ hxa
      have hgm : mget M x.1 = x.2 := mget_mem HV1.out.2.2.1.nodup (List.mem_of_getElem? hx)
      have hok : acOk x.1 := acOk_right (n := x.2) (HV1.out.2.2.2 x (List.mem_of_getElem? hx))
      have hNl : N1 ≤ wr.heap.size := by have := HO.out.1.size; omega
      have htk : rcov O (M.take (j + 1)) = decide (x.2 ≤ mget O x.1) := by
        rw [List.take_add_one, hx]
        have h1 := HO.out.2
        unfold rcov at h1 ⊢
        rw [List.all_append, h1]
        simp
      have hno : x.2 ≤ mget O x.1 ∨ rcov O M = false := by
        by_cases hle : x.2 ≤ mget O x.1
        · exact .inl hle
        · refine .inr ?_
          unfold rcov
          rw [List.all_eq_false]
          exact ⟨x, List.mem_of_getElem? hx, by simpa using hle⟩
      obtain ⟨⟨d, i⟩, s⟩ := x
      simp only at c0 c1 hgm hok htk hno
      have HH := Lib.hid (And.intro (HO.out.1.alloc hNl (.cells #[.int .i64 d, .int .i64 i] 25)) (Whole.new wr 25 #[.int .i64 d, .int .i64 i]))
      have CY := Lib.hid (fun W hW => CG.out (d, i) hok W hW)
      have hqd : decide (mget O (d, i) < s) = !decide (s ≤ mget O (d, i)) := by
        rw [Bool.eq_iff_iff]
        simp only [decide_eq_true_eq, Bool.not_eq_true', decide_eq_false_iff_not]
        omega
      generalize mget O (d, i) = qo at *
      have HT1 := Lib.hid htk
      have HT2 := Lib.hid hno
      clear hx hxa htk hno
      subst hAe
      go_wp2_with fail
      obtain ⟨hb4, hW4⟩ := HH.out
      generalize hP : wr.heap.size = P at *
      generalize (wr.alloc (.cells #[.int .i64 d, .int .i64 i] 25)) = W4 at *
      have HW := Lib.hid (And.intro hW4 (And.intro (HV1.out.below hb4 hlv hlb) hb4))
      have HQ4 := Lib.hid (HQ1.out.up (by rw [hN1]; exact hb4.drew))
      have hz4 : N1 ≤ W4.heap.size := by have := hb4.size; omega
      have hP4 : P < W4.heap.size := hW4.lt
      clear hb4 hW4 HH HA
      refine wp_region_held_drew (S := (fun W => W.cell? ⟨P, 0, none⟩ = some (.int .i64 d) ∧ W.cell? ⟨P, 1, none⟩ = some (.int .i64 i) ∧ W.cell? ⟨v, 0, none⟩ = some (.map (some b)) ∧ (Instr.lookup 114 (.map (some b)) (.agg #[.int .i64 d, .int .i64 i]) false).run Try.prog W = .ok (.int .i64 s) W)) (by kernel_rfl) ?_ (fun hHeld => ?_)
      · (try dsimp only); exact LkS.mk_ HW.out.1.drew HW.out.2.1.drew hok hgm
      refine wpAnyH_take (i := 0) (v := ?_) rfl (by kernel_rfl) (by kernel_rfl) (by kernel_rfl) (fun _ _ _ h => h) (Or.inl ⟨by rfl, ?_⟩) (by assumption) ?_
      rotate_left
      first | (focus ((intro w hSw; (try dsimp only at hSw); go_simp); (try with_reducible rfl); done)) | fail
      try simp only [Act.put, List.getElem_toArray, List.getElem_cons_zero, List.setIfInBounds_toArray, List.set_cons_zero, List.set_cons_succ]
      refine wpAnyH_take (i := 1) (v := ?_) rfl (by kernel_rfl) (by kernel_rfl) (by kernel_rfl) (fun _ _ _ h => h) (Or.inl ⟨by rfl, ?_⟩) (by assumption) ?_
      rotate_left
      first | (focus ((intro w hSw; (try dsimp only at hSw); go_simp); (try with_reducible rfl); done)) | fail
      try simp only [Act.put, List.getElem_toArray, List.getElem_cons_zero, List.getElem_cons_succ, List.setIfInBounds_toArray, List.set_cons_zero, List.set_cons_succ]
      refine wpAnyH_take (i := 3) (v := ?_) rfl (by kernel_rfl) (by kernel_rfl) (by kernel_rfl) (fun _ _ _ h => h) (Or.inl ⟨by rfl, ?_⟩) (by assumption) ?_
      rotate_left
      first | (focus ((intro w hSw; (try dsimp only at hSw); go_simp); (try with_reducible rfl); done)) | fail
      try simp only [Act.put, List.getElem_toArray, List.getElem_cons_zero, List.getElem_cons_succ, List.setIfInBounds_toArray, List.set_cons_zero, List.set_cons_succ]
      refine wpAnyH_take (i := 4) (v := ?_) rfl (by kernel_rfl) (by kernel_rfl) (by kernel_rfl) (fun _ _ _ h => h) (Or.inl ⟨by rfl, ?_⟩) (by assumption) ?_
      rotate_left
      first | (focus ((intro w hSw; (try dsimp only at hSw); go_simp); (try with_reducible rfl); done)) | fail
      try simp only [Act.put, List.getElem_toArray, List.getElem_cons_zero, List.getElem_cons_succ, List.setIfInBounds_toArray, List.set_cons_zero, List.set_cons_succ]
      refine wpAnyH_take (i := 5) (v := ?_) rfl (by kernel_rfl) (by kernel_rfl) (by kernel_rfl) (fun _ _ _ h => h) (Or.inl ⟨by rfl, ?_⟩) (by assumption) ?_
      rotate_left
      first | (focus ((intro w hSw; (try dsimp only at hSw); go_simp); (try with_reducible rfl); done)) | fail
      try simp only [Act.put, List.getElem_toArray, List.getElem_cons_zero, List.getElem_cons_succ, List.setIfInBounds_toArray, List.set_cons_zero, List.set_cons_succ]
      refine wpAnyH_take (i := 6) (v := ?_) rfl (by kernel_rfl) (by kernel_rfl) (by kernel_rfl) (fun _ _ _ h => h) (Or.inl ⟨by rfl, ?_⟩) (by assumption) ?_
      rotate_left
      first | (focus ((intro w hSw; (try dsimp only at hSw); go_simp); (try with_reducible rfl); done)) | fail
      try simp only [Act.put, List.getElem_toArray, List.getElem_cons_zero, List.getElem_cons_succ, List.setIfInBounds_toArray, List.set_cons_zero, List.set_cons_succ]
      refine wpAnyH_take (i := 7) (v := ?_) rfl (by kernel_rfl) (by kernel_rfl) (by kernel_rfl) (fun _ _ _ h => h) (Or.inl ⟨by rfl, ?_⟩) (by assumption) ?_
      rotate_left
      first | (focus ((intro w hSw; (try dsimp only at hSw); go_simp); (try with_reducible rfl); done)) | fail
      try simp only [Act.put, List.getElem_toArray, List.getElem_cons_zero, List.getElem_cons_succ, List.setIfInBounds_toArray, List.set_cons_zero, List.set_cons_succ]
      refine wpAnyH_take (i := 8) (v := ?_) rfl (by kernel_rfl) (by kernel_rfl) (by kernel_rfl) (fun _ _ _ h => h) (Or.inl ⟨by rfl, ?_⟩) (by assumption) ?_
      rotate_left
      first | (focus ((intro w hSw; (try dsimp only at hSw); go_simp); (try with_reducible rfl); done)) | fail
      try simp only [Act.put, List.getElem_toArray, List.getElem_cons_zero, List.getElem_cons_succ, List.setIfInBounds_toArray, List.set_cons_zero, List.set_cons_succ]
      refine wpAnyH_ready (rs := [2]) (by kernel_rfl) (by simp) ?_
      refine AllReadyH.cons rfl (fun K hK => ?_) AllReadyH.nil
      go_simp
      refine (CY.out _ HQ4.out).mono ?_; rintro e w5 ⟨rfl, b5⟩
      go_wp2_with fail
      refine hK.out _ _ ?_ (fun hHeld => ?_)
      · (try dsimp only); exact LkS.mk_ (Whole.below HW.out.1.drew b5 hP4) (VecIs.up HW.out.2.1.drew b5) hok hgm
      clear hK K
      try simp only [Act.put, List.getElem_toArray, List.getElem_cons_zero, List.getElem_cons_succ, List.setIfInBounds_toArray, List.set_cons_zero, List.set_cons_succ]
      have HF := Lib.hid (HW.out.2.2.drew.trans (below_of_le b5 (by show N1 ≤ W4.heap.size; omega)))
      clear b5
      by_cases hle : s ≤ qo
      · have hd : decide (qo < s) = false := by rw [hqd]; simpa using hle
        have h1 := Lib.hid (show rcov O (M.take (j + 1)) = true by rw [HT1.out]; exact decide_eq_true hle)
        clear hqd hle
        refine wpAnyH_take (i := 9) (v := ?_) rfl (by kernel_rfl) (by kernel_rfl) (by kernel_rfl) (fun _ _ _ h => h) (Or.inl ⟨by rfl, ?_⟩) (by assumption) ?_
        rotate_left
        first | (focus ((intro w hSw; (try dsimp only at hSw); go_simp); (try with_reducible rfl); done)) | fail
        try simp only [Act.put, List.getElem_toArray, List.getElem_cons_zero, List.getElem_cons_succ, List.setIfInBounds_toArray, List.set_cons_zero, List.set_cons_succ]
        refine wpAnyH_done (by kernel_rfl) ?_ _
        go_wp2
        go_roundw
        case rel => exact ⟨j + 1, by omega, by go_num, h1.out, HF.out⟩
        case measure => simp [intOf]; omega
      · have hd : decide (qo < s) = true := by rw [hqd]; simpa using hle
        have h1 := Lib.hid (show rcov O M = false by
          rcases HT2.out with h | h
          · exact absurd h hle
          · exact h)
        clear hqd hle
        refine wpAnyH_take (i := 9) (v := ?_) rfl (by kernel_rfl) (by kernel_rfl) (by kernel_rfl) (fun _ _ _ h => h) (Or.inl ⟨by rfl, ?_⟩) (by assumption) ?_
        rotate_left
        first | (focus ((intro w hSw; (try dsimp only at hSw); go_simp); (try with_reducible rfl); done)) | fail
        try simp only [Act.put, List.getElem_toArray, List.getElem_cons_zero, List.getElem_cons_succ, List.setIfInBounds_toArray, List.set_cons_zero, List.set_cons_succ]
        refine wpAnyH_done (by kernel_rfl) ?_ _
        go_wp2
        go_ret
        exact ⟨ret_bool h1.out.symm, B1.out.trans (below_of_le HF.out (by omega))⟩
    · have hj' : j = n := by omega
      subst hj'
      have ht := Lib.hid (show rcov O M = true by
        have := HO.out.2
        rwa [List.take_of_length_le (by have := HL.out; omega)] at this)
      clear HA
      go_wp2
      go_ret
      exact ⟨ret_bool ht.out.symm, B1.out.trans (below_of_le HO.out.1 (by omega))⟩
theorem vccovers_any (w : World) (p q : Option Addr) (M O : List Dt) (h : VecAt w p M) (ho : VecAt w q O) :
    Calls Try.prog 35 #[.pointer p, .pointer q] w fun e w' => e = .returned (.bool (rcov M O)) ∧ Below w.heap.size w w' := by
  rcases ho with ⟨rfl, rfl⟩ | ⟨v, b, rfl, ho⟩
  · have CA := Lib.hid (vcactors_any w _ [] (VecAt.nil w))
    have hr := Lib.hid (show rcov M [] = true from rfl)
    generalize hN : w.heap.size = N at *
    go_enter Try.func35, Try.ntmps35
    go_wp2_with fail
    refine CA.out.mono ?_; rintro e w1 ⟨A, c, rfl, hc1, hc2, hA, hblA, hb1⟩
    have HE := Lib.hid (hN ▸ hb1 : Below N w w1)
    clear CA hA hblA hb1
    go_wp2_with fail
    refine wp_loop_rounds 1 ?_
    rw [rounds_succ]
    go_wp2
    go_ret
    exact ⟨ret_bool hr.out.symm, HE.out⟩
  · exact vccovers_in w p v b O M h ho
/-- The sum of the numbers. -/
def msum (L : List Dt) : Int := (L.map (·.2)).foldl (· + ·) 0
theorem msum_snoc (L : List Dt) (x : Dt) : msum (L ++ [x]) = msum L + x.2 := by simp [msum]
theorem msum_le {M : List Dt} (h : Vw M) (k : Nat) : 0 ≤ msum (M.take k) ∧ msum (M.take k) ≤ 4294967296 * k := by
  induction k with
  | zero => simp [msum]
  | succ k ih =>
    cases hx : M[k]? with
    | none =>
      rw [List.take_add_one, hx]
      simp only [Option.toList_none, List.append_nil]
      omega
    | some x =>
      rw [List.take_add_one, hx]
      simp only [Option.toList_some]
      rw [msum_snoc]
      have := (rightD_iff x).1 (h.2 x (List.mem_of_getElem? hx))
      omega
set_option maxHeartbeats 1000000 in
theorem vcsum_in (w : World) (v b : Nat) (M : List Dt) (h : VecIs w v b M) : Calls Try.prog 40 #[.pointer (some ⟨v, 0, none⟩)] w fun e w' => e = .returned (.int .i64 (msum M)) ∧ Below w.heap.size w w' := by
  have CA := Lib.hid (vcactors_any w _ M h.at_)
  have HV := Lib.hid h
  have hms := Lib.hid (msum_le h.2.2)
  have hn := h.2.2.len
  generalize hlen' : M.length = n at *
  have HL := Lib.hid hlen'
  generalize hN : w.heap.size = N at *
  clear hlen' h
  go_enter Try.func40, Try.ntmps40
  go_wp2_with fail
  refine CA.out.mono ?_; rintro e w1 ⟨A, c, he, hc1, hc2, hA, hblA, hb1⟩
  rw [HL.out] at he hc1
  subst he
  have HA := Lib.hid hA
  have B1 := Lib.hid (hN ▸ hb1 : Below N w w1)
  have hv1 := HV.out.up hb1
  have HV1 := Lib.hid hv1
  have hlv := hv1.ltv
  have hlb := hv1.ltb
  generalize hN1 : w1.heap.size = N1 at *
  have R0 := Lib.hid (Below.refl N1 w1)
  have hNN := B1.out.size
  clear hA hc2 hblA hb1 CA hv1 HV
  go_wp2_with fail
  go_loopw [3, 9] (fun y i wr => ∃ (j : Nat), j ≤ n ∧ i = .int .i64 j ∧ y = .int .i64 (msum (M.take j)) ∧ Below N1 w1 wr) (fun _ i _ => n - (intOf i).toNat)
  case atStart => exact ⟨0, by omega, rfl, rfl, R0.out⟩
  case round =>
    obtain ⟨j, hj, rfl, rfl, hb⟩ := hrel
    have HO := Lib.hid hb
    clear hb R0
    by_cases hlt : j < n
    · obtain ⟨x, hx⟩ : ∃ x, M[j]? = some x := ⟨M[j]'(by have := HL.out; omega), List.getElem?_eq_getElem _⟩
      have hxa : (M.map (·.1))[j]? = some x.1 := by rw [List.getElem?_map, hx]; rfl
      obtain ⟨b0, o0, hAe, hb0, c0, c1⟩ := (HA.out.below HO.out).at_ hxa
      have hgm : mget M x.1 = x.2 := mget_mem HV1.out.2.2.1.nodup (List.mem_of_getElem? hx)
      have hok : acOk x.1 := acOk_right (n := x.2) (HV1.out.2.2.2 x (List.mem_of_getElem? hx))
      have hNl : N1 ≤ wr.heap.size := by have := HO.out.size; omega
      have hrx := (rightD_iff x).1 (HV1.out.2.2.2 x (List.mem_of_getElem? hx))
      have hm0 := hms.out j
      have htk := Lib.hid (show msum (M.take (j + 1)) = msum (M.take j) + x.2 by rw [List.take_add_one, hx]; exact msum_snoc _ _)
      obtain ⟨⟨d, i⟩, s⟩ := x
      simp only at c0 c1 hgm hok hrx htk
      generalize msum (M.take j) = t at *
      have hw1 : IntKind.i64.wrap (t + s) = t + s := by rw [IntKind.wrap_i64]; omega
      have HH := Lib.hid (And.intro (HO.out.alloc hNl (.cells #[.int .i64 d, .int .i64 i] 25)) (Whole.new wr 25 #[.int .i64 d, .int .i64 i]))
      clear hx hxa hm0 hrx
      subst hAe
      go_wp2_with fail
      obtain ⟨hb4, hW4⟩ := HH.out
      generalize hP : wr.heap.size = P at *
      generalize (wr.alloc (.cells #[.int .i64 d, .int .i64 i] 25)) = W4 at *
      have HW := Lib.hid (And.intro hW4 (And.intro (HV1.out.below hb4 hlv hlb) hb4))
      clear hb4 hW4 HH HA
      refine wp_region_held_drew (S := (fun W => W.cell? ⟨P, 0, none⟩ = some (.int .i64 d) ∧ W.cell? ⟨P, 1, none⟩ = some (.int .i64 i) ∧ W.cell? ⟨v, 0, none⟩ = some (.map (some b)) ∧ (Instr.lookup 114 (.map (some b)) (.agg #[.int .i64 d, .int .i64 i]) false).run Try.prog W = .ok (.int .i64 s) W)) (by kernel_rfl) ?_ (fun hHeld => ?_)
      · (try dsimp only); exact LkS.mk_ HW.out.1.drew HW.out.2.1.drew hok hgm
      refine wpAnyH_take (i := 0) (v := ?_) rfl (by kernel_rfl) (by kernel_rfl) (by kernel_rfl) (fun _ _ _ h => h) (Or.inl ⟨by rfl, ?_⟩) (by assumption) ?_
      rotate_left
      first | (focus ((intro w hSw; (try dsimp only at hSw); go_simp); (try with_reducible rfl); done)) | fail
      try simp only [Act.put, List.getElem_toArray, List.getElem_cons_zero, List.setIfInBounds_toArray, List.set_cons_zero, List.set_cons_succ]
      refine wpAnyH_take (i := 1) (v := ?_) rfl (by kernel_rfl) (by kernel_rfl) (by kernel_rfl) (fun _ _ _ h => h) (Or.inl ⟨by rfl, ?_⟩) (by assumption) ?_
      rotate_left
      first | (focus ((intro w hSw; (try dsimp only at hSw); go_simp); (try with_reducible rfl); done)) | fail
      try simp only [Act.put, List.getElem_toArray, List.getElem_cons_zero, List.getElem_cons_succ, List.setIfInBounds_toArray, List.set_cons_zero, List.set_cons_succ]
      refine wpAnyH_take (i := 2) (v := ?_) rfl (by kernel_rfl) (by kernel_rfl) (by kernel_rfl) (fun _ _ _ h => h) (Or.inl ⟨by rfl, ?_⟩) (by assumption) ?_
      rotate_left
      first | (focus ((intro w hSw; (try dsimp only at hSw); go_simp); (try with_reducible rfl); done)) | fail
      try simp only [Act.put, List.getElem_toArray, List.getElem_cons_zero, List.getElem_cons_succ, List.setIfInBounds_toArray, List.set_cons_zero, List.set_cons_succ]
      refine wpAnyH_take (i := 3) (v := ?_) rfl (by kernel_rfl) (by kernel_rfl) (by kernel_rfl) (fun _ _ _ h => h) (Or.inl ⟨by rfl, ?_⟩) (by assumption) ?_
      rotate_left
      first | (focus ((intro w hSw; (try dsimp only at hSw); go_simp); (try with_reducible rfl); done)) | fail
      try simp only [Act.put, List.getElem_toArray, List.getElem_cons_zero, List.getElem_cons_succ, List.setIfInBounds_toArray, List.set_cons_zero, List.set_cons_succ]
      refine wpAnyH_take (i := 4) (v := ?_) rfl (by kernel_rfl) (by kernel_rfl) (by kernel_rfl) (fun _ _ _ h => h) (Or.inl ⟨by rfl, ?_⟩) (by assumption) ?_
      rotate_left
      first | (focus ((intro w hSw; (try dsimp only at hSw); go_simp); (try with_reducible rfl); done)) | fail
      try simp only [Act.put, List.getElem_toArray, List.getElem_cons_zero, List.getElem_cons_succ, List.setIfInBounds_toArray, List.set_cons_zero, List.set_cons_succ]
      refine wpAnyH_take (i := 5) (v := ?_) rfl (by kernel_rfl) (by kernel_rfl) (by kernel_rfl) (fun _ _ _ h => h) (Or.inl ⟨by rfl, ?_⟩) (by assumption) ?_
      rotate_left
      first | (focus ((intro w hSw; (try dsimp only at hSw); go_simp); (try with_reducible rfl); done)) | fail
      try simp only [Act.put, List.getElem_toArray, List.getElem_cons_zero, List.getElem_cons_succ, List.setIfInBounds_toArray, List.set_cons_zero, List.set_cons_succ]
      refine wpAnyH_take (i := 6) (v := ?_) rfl (by kernel_rfl) (by kernel_rfl) (by kernel_rfl) (fun _ _ _ h => h) (Or.inl ⟨by rfl, ?_⟩) (by assumption) ?_
      rotate_left
      first | (focus ((intro w hSw; (try dsimp only at hSw); go_simp); (try with_reducible rfl); done)) | fail
      try simp only [Act.put, List.getElem_toArray, List.getElem_cons_zero, List.getElem_cons_succ, List.setIfInBounds_toArray, List.set_cons_zero, List.set_cons_succ]
      refine wpAnyH_take (i := 7) (v := ?_) rfl (by kernel_rfl) (by kernel_rfl) (by kernel_rfl) (fun _ _ _ h => h) (Or.inl ⟨by rfl, ?_⟩) (by assumption) ?_
      rotate_left
      first | (focus ((intro w hSw; (try dsimp only at hSw); go_simp); (try with_reducible rfl); done)) | fail
      try simp only [Act.put, List.getElem_toArray, List.getElem_cons_zero, List.getElem_cons_succ, List.setIfInBounds_toArray, List.set_cons_zero, List.set_cons_succ]
      refine wpAnyH_take (i := 8) (v := ?_) rfl (by kernel_rfl) (by kernel_rfl) (by kernel_rfl) (fun _ _ _ h => h) (Or.inl ⟨by rfl, ?_⟩) (by assumption) ?_
      rotate_left
      first | (focus ((intro w hSw; (try dsimp only at hSw); go_simp); (try with_reducible rfl); done)) | fail
      try simp only [Act.put, List.getElem_toArray, List.getElem_cons_zero, List.getElem_cons_succ, List.setIfInBounds_toArray, List.set_cons_zero, List.set_cons_succ]
      refine wpAnyH_done (by kernel_rfl) ?_ _
      go_wp2
      go_roundw
      case rel => exact ⟨j + 1, by omega, by go_num, by rw [htk.out], HW.out.2.2.drew⟩
      case measure => simp [intOf]; omega
    · have hj' : j = n := by omega
      subst hj'
      have ht := Lib.hid (show M.take j = M by rw [List.take_of_length_le (by have := HL.out; omega)])
      clear HA
      go_wp2
      go_ret
      exact ⟨ret_int (by rw [ht.out]), B1.out.trans (below_of_le HO.out (by omega))⟩
theorem vcsum_any (w : World) (p : Option Addr) (M : List Dt) (h : VecAt w p M) : Calls Try.prog 40 #[.pointer p] w fun e w' => e = .returned (.int .i64 (msum M)) ∧ Below w.heap.size w w' := by
  rcases h with ⟨rfl, rfl⟩ | ⟨v, b, rfl, h⟩
  · have CA := Lib.hid (vcactors_any w _ [] (VecAt.nil w))
    generalize hN : w.heap.size = N at *
    go_enter Try.func40, Try.ntmps40
    go_wp2_with fail
    refine CA.out.mono ?_; rintro e w1 ⟨A, c, rfl, hc1, hc2, hA, hblA, hb1⟩
    have HE := Lib.hid (hN ▸ hb1 : Below N w w1)
    clear CA hA hblA hb1
    go_wp2_with fail
    refine wp_loop_rounds 1 ?_
    rw [rounds_succ]
    go_wp2
    go_ret
    exact ⟨rfl, HE.out⟩
  · exact vcsum_in w v b M h
end Go.Proofs.Ytailbppddnegoaa
