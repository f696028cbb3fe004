/- Layer 17 (vector): actors, Marks. -/
import Derived.Test.YtailbppddnegoaaY4
import Derived.Test.YtailbppddnegoaaM6
import Derived.Deep.RegionLaw
namespace Go.Proofs.Ytailbppddnegoaa
open Go.RowKit
set_option linter.unusedVariables false
set_option maxRecDepth 100000
attribute [local go_sem ↓] Go.wp_at_zero Go.wp_at_succ

/-- 'append' as a step of a region that draws, its run known. -/
theorem step_append_run {P : Program} {ops : Array Oper} {o : Oper} {a : Act} {w : World} {K : Act → World → Prop} {Q : Exit → Act → World → Prop} {E : Prop} (hg : o.guard = none) (s x : Operand) (t tn : TypeId)
    (ho : o.op = .call { callee := .builtin .append, args := #[s, x], argTypes := #[t, tn] }) (vs vx : Value) (hs : a.eval s = vs) (hx : a.eval x = vx)
    (v' : Value) (w' : World) (hr : (Builtin.append_ #[t, tn] o.type #[vs, vx]).run P w = .ok v' w') (h : K (a.put o.dst v') w') : if Region.wanted o (yielded ops a.tmps) = true then Oper.wp P o a w K Q else E := by
  have hw : Region.wanted o (yielded ops a.tmps) = true := by simp [Region.wanted, hg]
  rw [if_pos hw]
  exact wp_append_runs w s x t tn ho vs vx hs hx v' w' hr h
/-- A slice that reads as a list of actors. -/
def Acs (w : World) (B : Nat) (A : Option Addr) (L : List Ac) : Prop := Rd w B 2 A L.length (L.flatMap acC)
theorem Acs.below {w w' : World} {B : Nat} {A : Option Addr} {L : List Ac} (h : Acs w B A L) (hb : Below B w w') : Acs w' B A L := Rd.below h hb
theorem acC_len (a : Ac) : (acC a).length = 2 := rfl
theorem acs_get {L : List Ac} {i : Nat} {x : Ac} (h : L[i]? = some x) : (L.flatMap acC)[i * 2]? = some (.int .i64 x.1) ∧ (L.flatMap acC)[i * 2 + 1]? = some (.int .i64 x.2) := by
  have e := flatMap_at acC 2 acC_len L
  rw [e, e, show i * 2 / 2 = i by omega, show (i * 2 + 1) / 2 = i by omega, show i * 2 % 2 = 0 by omega, show (i * 2 + 1) % 2 = 1 by omega, h]
  exact ⟨rfl, rfl⟩
theorem Acs.at_ {w : World} {B i : Nat} {A : Option Addr} {L : List Ac} {x : Ac} (h : Acs w B A L) (hx : L[i]? = some x) : ∃ b o, A = some ⟨b, o, none⟩ ∧ b < B ∧ w.cell? ⟨b, o + i * 2, none⟩ = some (.int .i64 x.1) ∧ w.cell? ⟨b, o + i * 2 + 1, none⟩ = some (.int .i64 x.2) := by
  have hi : i < L.length := (List.getElem?_eq_some_iff.1 hx).1
  obtain ⟨b, o, hA, hb, hc⟩ := h.2 (by omega)
  obtain ⟨e0, e1⟩ := acs_get hx
  exact ⟨b, o, hA, hb, hc _ _ e0, by rw [Nat.add_assoc]; exact hc _ _ e1⟩
/-- The actors of a vector, in order. -/
def ActsEnd (w : World) (M : List Dt) (e : Ending) (w' : World) : Prop := ∃ A c, e = .returned (.slice A M.length c) ∧ M.length ≤ c ∧ c ≤ maxLen ∧ Acs w' w'.heap.size A (M.map (·.1)) ∧ (∀ k, bl A = some k → w.heap.size ≤ k) ∧ Below w.heap.size w w'
theorem vcactors_any (w : World) (p : Option Addr) (M : List Dt) (h : VecAt w p M) : Calls Try.prog 86 #[.pointer p] w (ActsEnd w M) := by
  rcases h with ⟨rfl, rfl⟩ | ⟨v, b, rfl, h⟩
  · have H := Lib.hid (show ActsEnd w [] (.returned (.slice none 0 0)) w from ⟨none, 0, rfl, Nat.le_refl _, by simp [maxLen], Rd.nil_, by simp [bl], Below.refl _ _⟩)
    go_enter Try.func86, Try.ntmps86
    go_wp2
    go_ret
    exact H.out
  · have hc := h.cell
    have CK := Lib.hid (callsIn_wide.1 (keysC_act Fence.wide 5 trivial rfl (some b) w))
    have hc4 : (w.alloc (.cells #[.map (some b)] 114)).cell? ⟨w.heap.size, 0, none⟩ = some (.map (some b)) := by rw [(Whole.new w 114 #[.map (some b)]).cell]; rfl
    have CS := Lib.hid (sortedK_act w.heap.size b M (M.map (·.1)) (w.alloc (.cells #[.map (some b)] 114)) (by simp) hc4 (h.2.1.alloc _) (by have := h.2.2.len; omega) h.2.2.1.keys (List.Perm.refl _))
    have hb4 := Lib.hid ((Below.refl w.heap.size w).alloc (Nat.le_refl _) (.cells #[.map (some b)] 114))
    clear h hc4
    go_enter Try.func86, Try.ntmps86
    go_wp2_with (first
      | (go_at_call 114; refine CK.out.mono ?_; rintro e w1 ⟨rfl, rfl⟩)
      | (go_at_call 113; refine CS.out.mono ?_; rintro e w1 ⟨A', c', rfl, o1, b1⟩))
    go_ret
    have e : (M.map (·.1)).length = M.length := by simp
    refine ⟨A', c', rfl, by rw [← e]; exact o1.2.1, o1.2.2, o1.rd, fun k hk => ?_, hb4.out.trans (below_of_le b1 (by simp))⟩
    have := (o1.block_lt k (by rw [ownBlock_bl]; exact hk)).1
    simp at this
    omega
theorem info_mk : (Try.prog.info? 33).map (fun i => (i.zero, i.size, i.bytes)) = some (some (.agg #[.int .i64 0, .int .i64 0, .int .i64 0]), 3, 24) := by kernel_rfl
/-- 'append' on marks, as a run. -/
theorem appM (w : World) (base : Nat) (A : Option Addr) (n c : Nat) (xs : List Value) (hown : Own w base 33 3 A n c xs) (B : Nat) (A' : Option Addr) (m c' : Nat) (news : List Value) (hr : Rd w B 3 A' m news) (h1 : ∀ u ∈ news, u.oneCell' = true) (hlen : n + m ≤ 4000000000) (hbase : base ≤ w.heap.size) :
    ∃ A2 c2 w', (Builtin.append_ #[22, 22] 22 #[.slice A n c, .slice A' m c']).run Try.prog w = .ok (.slice A2 (n + m) c2) w' ∧ Own w' base 33 3 A2 (n + m) c2 (xs ++ news) ∧ w.grownBy w' (bl A) ∧ Near w A A2 := by
  obtain ⟨i0, hi, hz0, hz1, hz2⟩ := info_parts info_mk
  exact run_append_rdn (P := Try.prog) w 22 22 base 33 i0 (.agg #[.int .i64 0, .int .i64 0, .int .i64 0]) 3 24 Try.underlying22 hi hz0 hz1 hz2 rfl (by decide) (by decide) A n c xs hown B A' m c' news hr h1 (by omega) hbase
theorem Own.bl_lo {w : World} {base size n c : Nat} {e : TypeId} {A : Option Addr} {xs : List Value} (h : Own w base e size A n c xs) : ∀ k, bl A = some k → base ≤ k := fun k hk => (h.block_lt k (by rw [ownBlock_bl]; exact hk)).1
/-- One mark appended, laid in a block of its own ahead of it. -/
theorem app1 (w : World) (base : Nat) (A : Option Addr) (n c : Nat) (L : List Dt) (hl : L.length = n) (hown : Own w base 33 3 A n c (dts L)) (x : Dt) (hlen : n ≤ 3000000000) (hbase : base ≤ w.heap.size) :
    ∃ A2 c2 w', (Builtin.append_ #[22, 22] 22 #[.slice A n c, .slice (some ⟨w.heap.size, 0, none⟩) 1 1]).run Try.prog (w.alloc (.cells #[.int .i64 x.1.1, .int .i64 x.1.2, .int .i64 x.2] 33)) = .ok (.slice A2 (n + 1) c2) w' ∧ Own w' base 33 3 A2 (n + 1) c2 (dts (L ++ [x])) ∧
      Ch (fun k => some k = bl A) w w' ∧ Below base w w' := by
  have hr : Rd (w.alloc (.cells #[.int .i64 x.1.1, .int .i64 x.1.2, .int .i64 x.2] 33)) (w.heap.size + 1) 3 (some ⟨w.heap.size, 0, none⟩) 1 (dtC x) :=
    ⟨rfl, fun _ => ⟨_, _, rfl, by omega, fun j u hu => by rw [(Whole.new w 33 #[.int .i64 x.1.1, .int .i64 x.1.2, .int .i64 x.2]).cell, Nat.zero_add, ← Array.getElem?_toList]; exact hu⟩⟩
  obtain ⟨A2, c2, w', q, o, g, _⟩ := appM (w.alloc (.cells #[.int .i64 x.1.1, .int .i64 x.1.2, .int .i64 x.2] 33)) base A n c (dts L) (hown.alloc _) (w.heap.size + 1) _ 1 1 (dtC x) hr (by intro u hu; simp [dtC] at hu; rcases hu with rfl | rfl | rfl <;> rfl) (by omega) (by simp; omega)
  refine ⟨A2, c2, w', q, ?_, ?_, ?_⟩
  · have e : dts (L ++ [x]) = dts L ++ dtC x := by simp [dts]
    rw [e]; exact o
  · exact (Ch.alloc_ _ w _).trans (grown_ch g) (fun k _ h => h)
  · exact ((Below.refl base w).alloc hbase _).grown g (by simp; omega) hown.bl_lo
/-- What a round reads: an actor in block P, and its number in the map in block b of the vector in block v. -/
def LkS (P v b : Nat) (d i s : Int) (W : World) : Prop := W.cell? ⟨P, 0, none⟩ = some (.int .i64 d) ∧ W.cell? ⟨P, 1, none⟩ = some (.int .i64 i) ∧ W.cell? ⟨v, 0, none⟩ = some (.map (some b)) ∧
  (Instr.lookup 114 (.map (some b)) (.agg #[.int .i64 d, .int .i64 i]) false).run Try.prog W = .ok (.int .i64 s) W
theorem LkS.mk_ {P v b : Nat} {d i s : Int} {W : World} {M : List Dt} (hW : Whole W P 25 #[.int .i64 d, .int .i64 i]) (hv : VecIs W v b M) (ok : acOk (d, i)) (hg : mget M (d, i) = s) : LkS P v b d i s W :=
  ⟨by rw [hW.cell]; rfl, by rw [hW.cell]; rfl, hv.cell, by have := hv.look ok; rw [hg] at this; exact this⟩
/-- The marks of a vector. -/
def MarksEnd (w : World) (M : List Dt) (e : Ending) (w' : World) : Prop := ∃ A c, e = .returned (.slice A M.length c) ∧ Own w' w.heap.size 33 3 A M.length c (dts M) ∧ Below w.heap.size w w'
set_option maxHeartbeats 1000000 in
theorem vcmarks_in (w : World) (v b : Nat) (M : List Dt) (h : VecIs w v b M) : Calls Try.prog 23 #[.pointer (some ⟨v, 0, none⟩)] w (MarksEnd w M) := by
  have CA := Lib.hid (vcactors_any w _ M h.at_)
  have HV := Lib.hid h
  have hn := h.2.2.len
  have hlen : M.length = M.length := rfl
  generalize hlen' : M.length = n at *
  have HL := Lib.hid hlen'
  generalize hN : w.heap.size = N at *
  clear hlen hlen' h
  go_enter Try.func23, Try.ntmps23
  go_wp2_with fail
  refine CA.out.mono ?_; rintro e w1 ⟨A, c, he, hc1, hc2, hA, hblA, hb1⟩
  rw [HL.out] at he hc1
  subst he
  have HA := Lib.hid hA
  have B1 := Lib.hid (hN ▸ hb1 : Below N w w1)
  have hv1 := HV.out.up hb1
  have HV1 := Lib.hid hv1
  have hlv := hv1.ltv
  have hlb := hv1.ltb
  generalize hN1 : w1.heap.size = N1 at *
  have H0 := Lib.hid (Own.nil_ : Own w1 N1 33 3 none 0 0 (dts (M.take 0)))
  have R0 := Lib.hid (Below.refl N1 w1)
  have hNN := B1.out.size
  clear hA hc2 hblA hb1 CA hv1 HV
  go_wp2_with fail
  go_loopw [3, 9] (fun y i wr => ∃ (j : Nat) (A3 : Option Addr) (c3 : Nat), j ≤ n ∧ i = .int .i64 j ∧ y = .slice A3 j c3 ∧ Own wr N1 33 3 A3 j c3 (dts (M.take j)) ∧ Below N1 w1 wr) (fun _ i _ => n - (intOf i).toNat)
  case atStart => exact ⟨0, none, 0, by omega, rfl, rfl, H0.out, R0.out⟩
  case round =>
    obtain ⟨j, A3, c3, hj, rfl, rfl, hO, hb⟩ := hrel
    have HO := Lib.hid (And.intro hO hb)
    clear hO hb H0 R0
    by_cases hlt : j < n
    · obtain ⟨x, hx⟩ : ∃ x, M[j]? = some x := ⟨M[j]'(by have := HL.out; omega), List.getElem?_eq_getElem _⟩
      have hxa : (M.map (·.1))[j]? = some x.1 := by rw [List.getElem?_map, hx]; rfl
      obtain ⟨b0, o0, hAe, hb0, c0, c1⟩ := (HA.out.below HO.out.2).at_ hxa
      have hgm : mget M x.1 = x.2 := mget_mem HV1.out.2.2.1.nodup (List.mem_of_getElem? hx)
      have hok : acOk x.1 := acOk_right (n := x.2) (HV1.out.2.2.2 x (List.mem_of_getElem? hx))
      have hNl : N1 ≤ wr.heap.size := by have := HO.out.2.size; omega
      obtain ⟨⟨d, i⟩, s⟩ := x
      simp only at c0 c1 hgm hok
      have HH := Lib.hid (And.intro (HO.out.1.alloc (.cells #[.int .i64 d, .int .i64 i] 25)) (And.intro (HO.out.2.alloc hNl (.cells #[.int .i64 d, .int .i64 i] 25)) (Whole.new wr 25 #[.int .i64 d, .int .i64 i])))
      have htk := Lib.hid (show M.take (j + 1) = M.take j ++ [((d, i), s)] by rw [List.take_add_one, hx]; rfl)
      have hlj := Lib.hid (show (M.take j).length = j by rw [List.length_take]; have := HL.out; omega)
      clear hx hxa
      subst hAe
      go_wp2_with fail
      obtain ⟨hO4, hb4, hW4⟩ := HH.out
      generalize hP : wr.heap.size = P at *
      generalize (wr.alloc (.cells #[.int .i64 d, .int .i64 i] 25)) = W4 at *
      have hv4 : VecIs W4 v b M := HV1.out.below hb4 hlv hlb
      have hblA : bl A3 ≠ some P := fun e => by
        have := (HO.out.1.block_lt P (by rw [ownBlock_bl]; exact e)).2
        omega
      obtain ⟨A5, c5, w5, q5, o5, ch5, b5⟩ := app1 W4.drew N1 A3 j c3 (M.take j) hlj.out hO4.drew ((d, i), s) (by omega) (by have := hb4.size; show N1 ≤ W4.heap.size; omega)
      have hv5 : VecIs w5 v b M := VecIs.below hv4.drew b5 hlv hlb
      have hW5 : Whole w5 P 25 #[.int .i64 d, .int .i64 i] := Whole.ch hW4.drew ch5 (fun e => hblA e.symm)
      have HF := Lib.hid (And.intro o5 (hb4.drew.trans b5))
      have HW := Lib.hid (And.intro hW4 (And.intro hv4 (And.intro hW5 hv5)))
      clear hO4 hb4 hW4 hv4 hblA o5 ch5 b5 hv5 hW5 HH HA
      refine wp_region_held_drew (S := (fun W => W.cell? ⟨P, 0, none⟩ = some (.int .i64 d) ∧ W.cell? ⟨P, 1, none⟩ = some (.int .i64 i) ∧ W.cell? ⟨v, 0, none⟩ = some (.map (some b)) ∧ (Instr.lookup 114 (.map (some b)) (.agg #[.int .i64 d, .int .i64 i]) false).run Try.prog W = .ok (.int .i64 s) W)) (by kernel_rfl) ?_ (fun hHeld => ?_)
      · (try dsimp only); exact LkS.mk_ HW.out.1.drew HW.out.2.1.drew hok hgm
      refine wpAnyH_take (i := 0) (v := ?_) rfl (by kernel_rfl) (by kernel_rfl) (by kernel_rfl) (fun _ _ _ h => h) (Or.inl ⟨by rfl, ?_⟩) (by assumption) ?_
      rotate_left
      · (intro w hSw; (try dsimp only at hSw); go_simp); try with_reducible rfl
      try simp only [Act.put, List.getElem_toArray, List.getElem_cons_zero, List.setIfInBounds_toArray, List.set_cons_zero, List.set_cons_succ]
      refine wpAnyH_take (i := 1) (v := ?_) rfl (by kernel_rfl) (by kernel_rfl) (by kernel_rfl) (fun _ _ _ h => h) (Or.inl ⟨by rfl, ?_⟩) (by assumption) ?_
      rotate_left
      · (intro w hSw; (try dsimp only at hSw); go_simp); try with_reducible rfl
      try simp only [Act.put, List.getElem_toArray, List.getElem_cons_zero, List.getElem_cons_succ, List.setIfInBounds_toArray, List.set_cons_zero, List.set_cons_succ]
      refine wpAnyH_take (i := 2) (v := ?_) rfl (by kernel_rfl) (by kernel_rfl) (by kernel_rfl) (fun _ _ _ h => h) (Or.inl ⟨by rfl, ?_⟩) (by assumption) ?_
      rotate_left
      · (intro w hSw; (try dsimp only at hSw); go_simp); try with_reducible rfl
      try simp only [Act.put, List.getElem_toArray, List.getElem_cons_zero, List.getElem_cons_succ, List.setIfInBounds_toArray, List.set_cons_zero, List.set_cons_succ]
      refine wpAnyH_take (i := 3) (v := ?_) rfl (by kernel_rfl) (by kernel_rfl) (by kernel_rfl) (fun _ _ _ h => h) (Or.inl ⟨by rfl, ?_⟩) (by assumption) ?_
      rotate_left
      · (intro w hSw; (try dsimp only at hSw); go_simp); try with_reducible rfl
      try simp only [Act.put, List.getElem_toArray, List.getElem_cons_zero, List.getElem_cons_succ, List.setIfInBounds_toArray, List.set_cons_zero, List.set_cons_succ]
      refine wpAnyH_take (i := 4) (v := ?_) rfl (by kernel_rfl) (by kernel_rfl) (by kernel_rfl) (fun _ _ _ h => h) (Or.inl ⟨by rfl, ?_⟩) (by assumption) ?_
      rotate_left
      · (intro w hSw; (try dsimp only at hSw); go_simp); try with_reducible rfl
      try simp only [Act.put, List.getElem_toArray, List.getElem_cons_zero, List.getElem_cons_succ, List.setIfInBounds_toArray, List.set_cons_zero, List.set_cons_succ]
      refine wpAnyH_take (i := 5) (v := ?_) rfl (by kernel_rfl) (by kernel_rfl) (by kernel_rfl) (fun _ _ _ h => h) (Or.inl ⟨by rfl, ?_⟩) (by assumption) ?_
      rotate_left
      · (intro w hSw; (try dsimp only at hSw); go_simp); try with_reducible rfl
      try simp only [Act.put, List.getElem_toArray, List.getElem_cons_zero, List.getElem_cons_succ, List.setIfInBounds_toArray, List.set_cons_zero, List.set_cons_succ]
      refine wpAnyH_take (i := 6) (v := ?_) rfl (by kernel_rfl) (by kernel_rfl) (by kernel_rfl) (fun _ _ _ h => h) (Or.inl ⟨by rfl, ?_⟩) (by assumption) ?_
      rotate_left
      · (intro w hSw; (try dsimp only at hSw); go_simp); try with_reducible rfl
      try simp only [Act.put, List.getElem_toArray, List.getElem_cons_zero, List.getElem_cons_succ, List.setIfInBounds_toArray, List.set_cons_zero, List.set_cons_succ]
      refine wpAnyH_take (i := 7) (v := ?_) rfl (by kernel_rfl) (by kernel_rfl) (by kernel_rfl) (fun _ _ _ h => h) (Or.inl ⟨by rfl, ?_⟩) (by assumption) ?_
      rotate_left
      · (intro w hSw; (try dsimp only at hSw); go_simp); try with_reducible rfl
      try simp only [Act.put, List.getElem_toArray, List.getElem_cons_zero, List.getElem_cons_succ, List.setIfInBounds_toArray, List.set_cons_zero, List.set_cons_succ]
      refine wpAnyH_take (i := 8) (v := ?_) rfl (by kernel_rfl) (by kernel_rfl) (by kernel_rfl) (fun _ _ _ h => h) (Or.inl ⟨by rfl, ?_⟩) (by assumption) ?_
      rotate_left
      · (intro w hSw; (try dsimp only at hSw); go_simp); try with_reducible rfl
      try simp only [Act.put, List.getElem_toArray, List.getElem_cons_zero, List.getElem_cons_succ, List.setIfInBounds_toArray, List.set_cons_zero, List.set_cons_succ]
      refine wpAnyH_ready (rs := [9]) (by kernel_rfl) (by simp) ?_
      refine AllReadyH.cons rfl (fun K hK => ?_) AllReadyH.nil
      go_simp
      refine hK.out _ _ ?_ (fun hHeld => ?_)
      · (try dsimp only); exact LkS.mk_ (HW.out.1.drew.alloc _) (HW.out.2.1.drew.alloc _) hok hgm
      clear hK K
      try simp only [Act.put, List.getElem_toArray, List.getElem_cons_zero, List.getElem_cons_succ, List.setIfInBounds_toArray, List.set_cons_zero, List.set_cons_succ]
      refine wpAnyH_ready (rs := [10]) (by kernel_rfl) (by simp) ?_
      refine AllReadyH.cons rfl (fun K hK => ?_) AllReadyH.nil
      refine step_append_run (by rfl) (.tmp 13) (.tmp 22) _ _ (by rfl) _ _ (by rfl) (by rfl) _ _ q5 ?_
      refine hK.out _ _ ?_ (fun hHeld => ?_)
      · (try dsimp only); exact LkS.mk_ HW.out.2.2.1 HW.out.2.2.2 hok hgm
      clear hK K
      try simp only [Act.put, List.getElem_toArray, List.getElem_cons_zero, List.getElem_cons_succ, List.setIfInBounds_toArray, List.set_cons_zero, List.set_cons_succ]
      refine wpAnyH_take (i := 11) (v := ?_) rfl (by kernel_rfl) (by kernel_rfl) (by kernel_rfl) (fun _ _ _ h => h) (Or.inl ⟨by rfl, ?_⟩) (by assumption) ?_
      rotate_left
      · (intro w hSw; (try dsimp only at hSw); go_simp); try with_reducible rfl
      try simp only [Act.put, List.getElem_toArray, List.getElem_cons_zero, List.getElem_cons_succ, List.setIfInBounds_toArray, List.set_cons_zero, List.set_cons_succ]
      refine wpAnyH_done (by kernel_rfl) ?_ _
      go_wp2
      go_roundw
      case rel => exact ⟨j + 1, A5, c5, by omega, by go_num, rfl, by rw [htk.out]; exact HF.out.1, HF.out.2⟩
      case measure => simp [intOf]; omega
    · have hj' : j = n := by omega
      subst hj'
      have ht := Lib.hid (show M.take j = M by rw [List.take_of_length_le (by have := HL.out; omega)])
      clear HA
      go_wp2
      go_ret
      have ho := HO.out.1
      rw [ht.out] at ho
      exact ⟨A3, c3, by rw [HL.out]; rfl, by rw [HL.out, hN]; exact ho.base_le (by omega), by rw [hN]; exact B1.out.trans (below_of_le HO.out.2 (by omega))⟩
theorem vcmarks_nil (w : World) : Calls Try.prog 23 #[.pointer none] w (MarksEnd w []) := by
  have CA := Lib.hid (vcactors_any w _ [] (VecAt.nil w))
  generalize hN : w.heap.size = N at *
  go_enter Try.func23, Try.ntmps23
  go_wp2_with fail
  refine CA.out.mono ?_; rintro e w1 ⟨A, c, rfl, hc1, hc2, hA, hblA, hb1⟩
  have HE := Lib.hid (show MarksEnd w [] (.returned (.slice none 0 0)) w1 from ⟨none, 0, rfl, Own.nil_, hb1⟩)
  clear CA hA hblA hb1
  go_wp2_with fail
  refine wp_loop_rounds 1 ?_
  rw [rounds_succ]
  go_wp2
  go_ret
  exact HE.out
theorem vcmarks_any (w : World) (p : Option Addr) (M : List Dt) (h : VecAt w p M) : Calls Try.prog 23 #[.pointer p] w (MarksEnd w M) := by
  rcases h with ⟨rfl, rfl⟩ | ⟨v, b, rfl, h⟩
  · exact vcmarks_nil w
  · exact vcmarks_in w v b M h
end Go.Proofs.Ytailbppddnegoaa
