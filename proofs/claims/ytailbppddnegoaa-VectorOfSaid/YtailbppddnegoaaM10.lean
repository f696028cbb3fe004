/- Layer 16, the document's Sort of dots. -/
import Derived.Test.YtailbppddnegoaaMB
import Derived.Test.YtailbppddnegoaaWW
import Derived.Test.YtailbppddnegoaaDD
import Derived.Deep.CutBlock
import Derived.Deep.CutRange
import Derived.Deep.RegionLaw
namespace Go.Proofs.Ytailbppddnegoaa
open Go.RowKit
set_option linter.unusedVariables false
set_option maxRecDepth 100000

/-! Cuts of slices of three cells an element. -/
def cut3 (A : Option Addr) (c k : Nat) : Option Addr := if c = k then A else A.map (·.add (k * 3))
theorem Rd.cut3_ {w : World} {B n k c : Nat} {A : Option Addr} {xs : List Value} (h : Rd w B 3 A n xs) (hk : k ≤ n) (hc : n ≤ c) : Rd w B 3 (cut3 A c k) (n - k) (xs.drop (k * 3)) := by
  refine ⟨by rw [List.length_drop, h.1, Nat.sub_mul], fun hn => ?_⟩
  obtain ⟨b, o, rfl, hb, hcell⟩ := h.2 (by omega)
  unfold cut3
  rw [if_neg (by omega)]
  refine ⟨b, o + k * 3, by simp [Addr.add], hb, fun j u hu => ?_⟩
  rw [Nat.add_assoc]
  exact hcell _ u (by rw [← hu, List.getElem?_drop])
theorem Rd.front3 {w : World} {B n k : Nat} {A : Option Addr} {xs : List Value} (h : Rd w B 3 A n xs) (hk : k ≤ n) : Rd w B 3 A k (xs.take (k * 3)) := by
  refine ⟨by rw [List.length_take, h.1]; omega, fun hn => ?_⟩
  obtain ⟨b, o, rfl, hb, hcell⟩ := h.2 (by omega)
  refine ⟨b, o, rfl, hb, fun j u hu => hcell j u ?_⟩
  rw [List.getElem?_take] at hu
  split at hu
  · exact hu
  · cases hu
theorem dts_drop (L : List Dt) (k : Nat) : (dts L).drop (k * 3) = dts (L.drop k) := by
  induction L generalizing k with
  | nil => simp [dts]
  | cons x r ih =>
    cases k with
    | zero => simp
    | succ k =>
      show (dtC x ++ dts r).drop ((k + 1) * 3) = dts (r.drop k)
      rw [← ih, List.drop_append, dtC_len, show (k + 1) * 3 - 3 = k * 3 by omega, List.drop_eq_nil_of_le (by rw [dtC_len]; omega), List.nil_append]
theorem dts_take (L : List Dt) (k : Nat) : (dts L).take (k * 3) = dts (L.take k) := by
  induction L generalizing k with
  | nil => simp [dts]
  | cons x r ih =>
    cases k with
    | zero => simp [dts]
    | succ k =>
      show (dtC x ++ dts r).take ((k + 1) * 3) = dtC x ++ dts (r.take k)
      rw [← ih, List.take_append, dtC_len, show (k + 1) * 3 - 3 = k * 3 by omega, List.take_of_length_le (by rw [dtC_len]; omega)]
theorem dts_one (L : List Dt) : ∀ u ∈ dts L, u.oneCell' = true := by
  intro u hu
  obtain ⟨x, _, hx⟩ := List.mem_flatMap.1 hu
  simp [dtC] at hx
  rcases hx with rfl | rfl | rfl <;> rfl
theorem dtC_one (x : Dt) : ∀ u ∈ dtC x, u.oneCell' = true := by
  intro u hx
  simp [dtC] at hx
  rcases hx with rfl | rfl | rfl <;> rfl
theorem Ds.front {w : World} {B k : Nat} {A : Option Addr} {L : List Dt} (h : Ds w B A L) (hk : k ≤ L.length) : Rd w B 3 A k (dts (L.take k)) := by
  rw [← dts_take]; exact Rd.front3 h hk
theorem Ds.back {w : World} {B k c : Nat} {A : Option Addr} {L : List Dt} (h : Ds w B A L) (hk : k ≤ L.length) (hc : L.length ≤ c) : Rd w B 3 (cut3 A c k) (L.length - k) (dts (L.drop k)) := by
  rw [← dts_drop]; exact Rd.cut3_ h hk hc
section
variable {P : Program} (t : TypeId) (ht : P.underlying t = some (.slice (P.elem t))) (hs : ∀ w, (sizeOf (P.elem t)).run P w = .ok 3 w)
include ht hs
theorem run_from3 (A : Option Addr) (n c k : Nat) (hk : k ≤ n) (w : World) :
    (Instr.slice t (.slice A n c) (some (.int .i64 k)) none none).run P w = .ok (.slice (cut3 A c k) (n - k) (c - k)) w := by
  rw [run_slice_l w t A n c ht .i64 k (by omega) (by omega), hs]
  simp [sliced, cut3, Result.andThen]
theorem run_to3 (A : Option Addr) (n c k : Nat) (hk : k ≤ c) (w : World) :
    (Instr.slice t (.slice A n c) none (some (.int .i64 k)) none).run P w = .ok (.slice A k c) w := by
  rw [run_slice_h w t A n c ht .i64 k (by omega) (by omega), hs]
  simp [sliced, Result.andThen]
  intro _
  exact add0 A
end
theorem rd_fresh3 (w : World) (x : Dt) (e : TypeId) : Rd (w.alloc (.cells #[.int .i64 x.1.1, .int .i64 x.1.2, .int .i64 x.2] e)) (w.heap.size + 1) 3 (some ⟨w.heap.size, 0, none⟩) 1 (dtC x) :=
  ⟨rfl, fun _ => ⟨_, _, rfl, by omega, fun j u hu => by rw [(Whole.new w e #[.int .i64 x.1.1, .int .i64 x.1.2, .int .i64 x.2]).cell, Nat.zero_add, ← Array.getElem?_toList]; exact hu⟩⟩
theorem rd_whole3 {w : World} {g : Nat} {e : TypeId} (x : Dt) (h : Whole w g e #[.int .i64 x.1.1, .int .i64 x.1.2, .int .i64 x.2]) : Rd w (g + 1) 3 (some ⟨g, 0, none⟩) 1 (dtC x) :=
  ⟨rfl, fun _ => ⟨_, _, rfl, by omega, fun j u hu => by rw [h.cell, Nat.zero_add, ← Array.getElem?_toList]; exact hu⟩⟩
theorem own_e3 (w : World) (e : TypeId) (base : Nat) (h : base ≤ w.heap.size) : Own (w.alloc (.cells #[] e)) base e 3 (some ⟨w.heap.size, 0, none⟩) 0 0 [] :=
  ⟨⟨rfl, .inr ⟨w.heap.size, 0, #[], rfl, h, heap_alloc_new w _, Nat.le_refl _, by simp [maxLen], by simp, by simp⟩⟩, Nat.le_refl _, by simp [maxLen]⟩
theorem info_dt : (Try.prog.info? 27).map (fun i => (i.zero, i.size, i.bytes)) = some (some (.agg #[.int .i64 0, .int .i64 0, .int .i64 0]), 3, 24) := by kernel_rfl
/-- 'append' on dots, as a run. -/
theorem app3 (w : World) (base : Nat) (A : Option Addr) (n c : Nat) (xs : List Value) (hown : Own w base 27 3 A n c xs) (B : Nat) (A' : Option Addr) (m c' : Nat) (news : List Value) (hr : Rd w B 3 A' m news) (h1 : ∀ u ∈ news, u.oneCell' = true) (hlen : n + m ≤ 5000000) (hbase : base ≤ w.heap.size) :
    ∃ A2 c2 w', (Builtin.append_ #[43, 43] 43 #[.slice A n c, .slice A' m c']).run Try.prog w = .ok (.slice A2 (n + m) c2) w' ∧ Own w' base 27 3 A2 (n + m) c2 (xs ++ news) ∧ w.grownBy w' (bl A) ∧ Near w A A2 := by
  obtain ⟨i0, hi, hz0, hz1, hz2⟩ := info_parts info_dt
  exact run_append_rdn (P := Try.prog) w 43 43 base 27 i0 (.agg #[.int .i64 0, .int .i64 0, .int .i64 0]) 3 24 Try.underlying43 hi hz0 hz1 hz2 rfl (by decide) (by decide) A n c xs hown B A' m c' news hr h1 (by omega) hbase
theorem grown_below {w w' : World} {D : Nat} {A : Option Addr} (hg : w.grownBy w' (bl A)) (hD : D ≤ w.heap.size) (hA : ∀ k, bl A = some k → D ≤ k) : Below D w w' :=
  (Below.refl D w).grown hg hD hA
theorem Own.bl_ge {w : World} {base size n c : Nat} {e : TypeId} {A : Option Addr} {xs : List Value} (h : Own w base e size A n c xs) : ∀ k, bl A = some k → base ≤ k := fun k hk => (h.block_lt k (by rw [ownBlock_bl]; exact hk)).1
/-- 'append(append(append([]Dot of none, xs...), x), ys...)': both blocks are there ahead of the first. -/
theorem chainB (u : World) (D g xi : Nat) (x : Dt) (A3 A4 : Option Addr) (k c3 m c4 : Nat) (T1 T2 : List Value) (ho : Own u D 27 3 (some ⟨g, 0, none⟩) 0 0 []) (hx : Whole u xi 27 #[.int .i64 x.1.1, .int .i64 x.1.2, .int .i64 x.2]) (hxg : xi ≠ g)
    (rT : Rd u D 3 A3 k T1) (oT : ∀ v ∈ T1, v.oneCell' = true) (rB : Rd u D 3 A4 m T2) (oB : ∀ v ∈ T2, v.oneCell' = true) (hk : k ≤ 1000000) (hm : m ≤ 1000000) (hD : D ≤ u.heap.size) :
    ∃ A6 c6 w6 A8 c8 w8 A10 c10 w10, (Builtin.append_ #[43, 43] 43 #[.slice (some ⟨g, 0, none⟩) 0 0, .slice A3 k c3]).run Try.prog u = .ok (.slice A6 k c6) w6 ∧
      (Builtin.append_ #[43, 43] 43 #[.slice A6 k c6, .slice (some ⟨xi, 0, none⟩) 1 1]).run Try.prog w6 = .ok (.slice A8 (k + 1) c8) w8 ∧
      (Builtin.append_ #[43, 43] 43 #[.slice A8 (k + 1) c8, .slice A4 m c4]).run Try.prog w8 = .ok (.slice A10 (k + 1 + m) c10) w10 ∧
      Own w10 D 27 3 A10 (k + 1 + m) c10 (T1 ++ dtC x ++ T2) ∧ Below D u w6 ∧ Below D u w10 := by
  obtain ⟨A6, c6, w6, q1, o6, g6, n6⟩ := app3 u D _ 0 0 [] ho D A3 k c3 T1 rT oT (by omega) hD
  rw [Nat.zero_add] at q1 o6
  rw [List.nil_append] at o6
  have b6 := grown_below g6 hD ho.bl_ge
  have hx6 := hx.grown g6 (fun e => hxg (by simp [bl] at e; exact e.symm))
  obtain ⟨A8, c8, w8, q2, o8, g8, n8⟩ := app3 w6 D A6 k c6 T1 o6 (xi + 1) (some ⟨xi, 0, none⟩) 1 1 (dtC x) (rd_whole3 x hx6) (dtC_one x) (by omega) (Nat.le_trans hD b6.size)
  have b8 := b6.trans (grown_below g8 (Nat.le_trans hD b6.size) o6.bl_ge)
  obtain ⟨A10, c10, w10, q3, o10, g10, n10⟩ := app3 w8 D A8 (k + 1) c8 (T1 ++ dtC x) o8 D A4 m c4 T2 (rB.below b8) oB (by omega) (Nat.le_trans hD b8.size)
  exact ⟨A6, c6, w6, A8, c8, w8, A10, c10, w10, q1, q2, q3, o10, b6, b8.trans (grown_below g10 (Nat.le_trans hD b8.size) o8.bl_ge)⟩
/-- The dot's block is made behind the first append. -/
theorem chainA (u : World) (D g : Nat) (x : Dt) (A3 A4 : Option Addr) (k c3 m c4 : Nat) (T1 T2 : List Value) (ho : Own u D 27 3 (some ⟨g, 0, none⟩) 0 0 [])
    (rT : Rd u D 3 A3 k T1) (oT : ∀ v ∈ T1, v.oneCell' = true) (rB : Rd u D 3 A4 m T2) (oB : ∀ v ∈ T2, v.oneCell' = true) (hk : k ≤ 1000000) (hm : m ≤ 1000000) (hD : D ≤ u.heap.size) :
    ∃ A6 c6 w6 A8 c8 w8 A10 c10 w10, (Builtin.append_ #[43, 43] 43 #[.slice (some ⟨g, 0, none⟩) 0 0, .slice A3 k c3]).run Try.prog u = .ok (.slice A6 k c6) w6 ∧
      (Builtin.append_ #[43, 43] 43 #[.slice A6 k c6, .slice (some ⟨w6.heap.size, 0, none⟩) 1 1]).run Try.prog (w6.alloc (.cells #[.int .i64 x.1.1, .int .i64 x.1.2, .int .i64 x.2] 27)) = .ok (.slice A8 (k + 1) c8) w8 ∧
      (Builtin.append_ #[43, 43] 43 #[.slice A8 (k + 1) c8, .slice A4 m c4]).run Try.prog w8 = .ok (.slice A10 (k + 1 + m) c10) w10 ∧
      Own w10 D 27 3 A10 (k + 1 + m) c10 (T1 ++ dtC x ++ T2) ∧ Below D u w6 ∧ Below D u w10 := by
  obtain ⟨A6, c6, w6, q1, o6, g6, n6⟩ := app3 u D _ 0 0 [] ho D A3 k c3 T1 rT oT (by omega) hD
  rw [Nat.zero_add] at q1 o6
  rw [List.nil_append] at o6
  have b6 := grown_below g6 hD ho.bl_ge
  have hD6 := Nat.le_trans hD b6.size
  have b7 := b6.alloc hD6 (.cells #[.int .i64 x.1.1, .int .i64 x.1.2, .int .i64 x.2] 27)
  have hD7 := Nat.le_trans hD b7.size
  obtain ⟨A8, c8, w8, q2, o8, g8, n8⟩ := app3 (w6.alloc (.cells #[.int .i64 x.1.1, .int .i64 x.1.2, .int .i64 x.2] 27)) D A6 k c6 T1 (o6.alloc _) (w6.heap.size + 1) (some ⟨w6.heap.size, 0, none⟩) 1 1 (dtC x) (rd_fresh3 w6 x _) (dtC_one x) (by omega) hD7
  have b8 := b7.trans (grown_below g8 hD7 o6.bl_ge)
  obtain ⟨A10, c10, w10, q3, o10, g10, n10⟩ := app3 w8 D A8 (k + 1) c8 (T1 ++ dtC x) o8 D A4 m c4 T2 (rB.below b8) oB (by omega) (Nat.le_trans hD b8.size)
  exact ⟨A6, c6, w6, A8, c8, w8, A10, c10, w10, q1, q2, q3, o10, b6, b8.trans (grown_below g10 (Nat.le_trans hD b8.size) o8.bl_ge)⟩
/-- 'append' as a step of a region that draws, its run known. -/
theorem step_append_runs {P : Program} {ops : Array Oper} {o : Oper} {a : Act} {w : World} {K : Act → World → Prop} {Q : Exit → Act → World → Prop} {E : Prop} (hg : o.guard = none) (s x : Operand) (t tn : TypeId)
    (ho : o.op = .call { callee := .builtin .append, args := #[s, x], argTypes := #[t, tn] }) (vs vx : Value) (hs : a.eval s = vs) (hx : a.eval x = vx)
    (v' : Value) (w' : World) (hr : (Builtin.append_ #[t, tn] o.type #[vs, vx]).run P w = .ok v' w') (h : K (a.put o.dst v') w') : if Region.wanted o (yielded ops a.tmps) = true then Oper.wp P o a w K Q else E := by
  have hw : Region.wanted o (yielded ops a.tmps) = true := by simp [Region.wanted, hg]
  rw [if_pos hw]
  exact wp_append_runs w s x t tn ho vs vx hs hx v' w' hr h
theorem rless_dLt (x y : Dt) : rlessB x.1.1 x.1.2 x.2 y.1.1 y.1.2 y.2 = dLt x y := by
  rw [Bool.eq_iff_iff]
  unfold rlessB aheadB dLt
  repeat' split
  all_goals (simp only [decide_eq_true_eq]; omega)
theorem insD_at (S : List Dt) (x : Dt) (k : Nat) (hk : k ≤ S.length) (h : ∀ y ∈ S.take k, dLt y x = true) (he : ∀ y, S[k]? = some y → dLt y x = false) : insD S x = if S[k]? = some x then S else S.take k ++ x :: S.drop k := by
  induction S generalizing k with
  | nil =>
    obtain rfl : k = 0 := by simpa using hk
    rfl
  | cons y r ih =>
    cases k with
    | zero =>
      have h1 := he y rfl
      unfold insD
      rw [if_neg (by rw [h1]; simp)]
      by_cases hy : y = x
      · subst hy; simp
      · rw [if_neg hy, if_neg (by simpa using hy)]; rfl
    | succ k =>
      have h1 : dLt y x = true := h y (by simp)
      unfold insD
      rw [if_pos h1, ih k (by simpa using hk) (fun z hz => h z (by simp [hz])) (fun z hz => he z (by simpa using hz))]
      simp only [List.getElem?_cons_succ, List.take_succ_cons, List.drop_succ_cons]
      split <;> rfl
set_option maxHeartbeats 4000000 in
theorem rsort_any (w : World) (B : Nat) (A : Option Addr) (c : Nat) (L : List Dt) (hr : Ds w B A L) (hB : B ≤ w.heap.size) (hn : L.length ≤ 1000000) :
    Calls Try.prog 31 #[.slice A L.length c] w fun e w' => ∃ A' c', e = .returned (.slice A' (dsort L).length c') ∧ Own w' w.heap.size 27 3 A' (dsort L).length c' (dts (dsort L)) ∧ Below w.heap.size w w' := by
  obtain ⟨i0, hi, hz0, hz1, hz2⟩ := info_parts info_dt
  generalize hlen : L.length = n at *
  have HL := Lib.hid hlen
  have HR := Lib.hid hr
  have CL := Lib.hid (fun (x y : Dt) (W : World) => rdless_any x.1.1 x.1.2 x.2 y.1.1 y.1.2 y.2 W)
  clear hlen hr
  generalize hN : w.heap.size = N at *
  have E0 := Lib.hid (hN ▸ own_e3 w 27 w.heap.size (Nat.le_refl _) : Own (w.alloc (.cells #[] 27)) N 27 3 (some ⟨N, 0, none⟩) 0 0 [])
  have B0 := Lib.hid ((Below.refl N w).alloc (by omega) (.cells #[] 27))
  go_enter Try.func31, Try.ntmps31
  go_wp2_with fail
  generalize w.alloc (.cells #[] 27) = W0 at *
  go_loopw [3, 4] (fun y i wr => ∃ (j : Nat) (S : List Dt) (A3 : Option Addr) (c3 : Nat), j ≤ n ∧ i = .int .i64 j ∧ y = .slice A3 S.length c3 ∧ S.length ≤ j ∧ S = (L.take j).foldl insD [] ∧ Own wr N 27 3 A3 S.length c3 (dts S) ∧ Below N w wr) (fun _ i _ => n - (intOf i).toNat)
  case atStart => exact ⟨0, [], some ⟨N, 0, none⟩, 0, by omega, rfl, rfl, by simp, rfl, E0.out, B0.out⟩
  case round =>
    obtain ⟨j, S, A3, c3, hj, rfl, rfl, hSj, hS, hO, hb⟩ := hrel
    clear E0 B0
    obtain ⟨wq, rfl⟩ : ∃ wq, wq = wr := ⟨_, rfl⟩
    have HS := Lib.hid hS
    clear hS
    by_cases hlt : j < n
    · obtain ⟨x, hx⟩ : ∃ x, L[j]? = some x := ⟨L[j]'(by have := HL.out; omega), List.getElem?_eq_getElem _⟩
      have HX := Lib.hid hx
      have HO := Lib.hid hO
      have HB := Lib.hid hb
      clear hx hO hb
      generalize hs : S.length = s at *
      have HSL := Lib.hid hs
      clear hs
      obtain ⟨⟨d1, d2⟩, d3⟩ := x
      go_upto_block 2 with fail
      go_cut [5] from 13 to 29 (fun kk wx => ∃ k : Nat, k ≤ s ∧ kk = .int .i64 k ∧ (∀ y ∈ S.take k, dLt y ((d1, d2), d3) = true) ∧ (∀ y, S[k]? = some y → dLt y ((d1, d2), d3) = false) ∧ Below wq.heap.size wq wx)
      case first =>
        go_wp2_with fail
        go_loopw [5] (fun kk wx => ∃ k : Nat, k ≤ s ∧ kk = .int .i64 k ∧ (∀ y ∈ S.take k, dLt y ((d1, d2), d3) = true) ∧ Below wq.heap.size wq wx) (fun kk _ => s - (intOf kk).toNat)
        case atStart => exact ⟨0, by omega, rfl, by simp, Below.refl _ _⟩
        case round =>
          obtain ⟨k, hk, rfl, hle, hbx⟩ := hrel
          have HLE := Lib.hid hle
          clear hle
          by_cases hks : k < s
          · obtain ⟨y, hy⟩ : ∃ y, S[k]? = some y := ⟨S[k]'(by have := HSL.out; omega), List.getElem?_eq_getElem _⟩
            have hOx := (HSL.out.symm ▸ HO.out : Own wq N 27 3 A3 S.length c3 (dts S)).ds.below hbx
            obtain ⟨g3, o3, hA3, hg3, e0, e1, e2⟩ := hOx.at_ hy
            have hbn := (HB.out.trans (hbx.mono (by have := HB.out.size; omega)) : Below N w _)
            obtain ⟨b0, o0, hA, hb0, c0, c1, c2⟩ := (HR.out.below (hbn.mono hB)).at_ HX.out
            have hsz := hbx.size
            have HY := Lib.hid hy
            have HBX := Lib.hid hbx
            clear hy hOx hbn hbx
            subst hA hA3
            obtain ⟨⟨y1, y2⟩, y3⟩ := y
            simp only at c0 c1 c2 e0 e1 e2
            have hr : rlessB y1 y2 y3 d1 d2 d3 = dLt ((y1, y2), y3) ((d1, d2), d3) := rless_dLt ((y1, y2), y3) ((d1, d2), d3)
            have cl := fun W => CL.out ((y1, y2), y3) ((d1, d2), d3) W
            cases hd : dLt ((y1, y2), y3) ((d1, d2), d3)
            · simp only [dotV, hr, hd] at cl
              have CY := Lib.hid cl
              have hno := Lib.hid (show ∀ y, S[k]? = some y → dLt y ((d1, d2), d3) = false from fun y h => by rw [HY.out] at h; cases h; exact hd)
              clear cl hr hd
              go_wp2_with fail
              go_still_tail 13, (by kernel_rfl)
              change wpList _ _ _ _ _ wr.drew
              have HBD := Lib.hid HBX.out.drew
              clear c0 c1 c2 e0 e1 e2 HBX
              generalize wr.drew = w4 at *
              go_wp2_with fail
              refine (CY.out _).mono ?_; rintro e w5 ⟨rfl, b5⟩
              go_wp2
              go_meet
              exact ⟨k, by omega, rfl, HLE.out, hno.out, HBD.out.trans (below_of_le b5 (by have := HBD.out.size; exact this))⟩
            · simp only [dotV, hr, hd] at cl
              have CY := Lib.hid cl
              have hno := Lib.hid (show ∀ y ∈ S.take (k + 1), dLt y ((d1, d2), d3) = true from fun y h => by
                rw [List.take_add_one, HY.out, List.mem_append] at h
                rcases h with h | h
                · exact HLE.out y h
                · simp at h; subst h; exact hd)
              clear cl hr hd
              go_wp2_with fail
              go_still_tail 13, (by kernel_rfl)
              change wpList _ _ _ _ _ wr.drew
              have HBD := Lib.hid HBX.out.drew
              clear c0 c1 c2 e0 e1 e2 HBX
              generalize wr.drew = w4 at *
              go_wp2_with fail
              refine (CY.out _).mono ?_; rintro e w5 ⟨rfl, b5⟩
              go_wp2
              go_roundw
              case rel => exact ⟨k + 1, by omega, by go_num, hno.out, HBD.out.trans (below_of_le b5 (by have := HBD.out.size; exact this))⟩
              case measure => simp [intOf]; omega
          · have hks' : k = s := by omega
            subst hks'
            have HBX := Lib.hid hbx
            have hno := Lib.hid (show ∀ y, S[k]? = some y → dLt y ((d1, d2), d3) = false from fun y h => by
              rw [List.getElem?_eq_none (by have := HSL.out; omega)] at h; cases h)
            clear hbx
            go_wp2_with fail
            go_region
            all_goals
              go_wp2
              go_meet
              exact ⟨k, by omega, rfl, HLE.out, hno.out, HBX.out.drew⟩
      case rest =>
        obtain ⟨k, hk, rfl, hle, hno, hbc⟩ := hcut
        have hsz := hbc.size
        have hszq := HB.out.size
        have hbn := (HB.out.trans (hbc.mono (by omega)) : Below N w _)
        have hOx := (HSL.out.symm ▸ HO.out : Own wq N 27 3 A3 S.length c3 (dts S)).below hbc (Nat.le_refl _)
        obtain ⟨b0, o0, hA, hb0, c0, c1, c2⟩ := (HR.out.below (hbn.mono hB)).at_ HX.out
        simp only at c0 c1 c2
        have hins := Lib.hid (insD_at S ((d1, d2), d3) k (by have := HSL.out; omega) hle hno)
        have hstep := Lib.hid (show insD S ((d1, d2), d3) = (L.take (j + 1)).foldl insD [] by
          rw [List.take_add_one, HX.out, List.foldl_append, ← HS.out]; rfl)
        have HBN := Lib.hid hbn
        have HOX := Lib.hid hOx
        clear hle hno hbc hbn hOx
        subst hA
        go_upto_region 8 with fail
        go_cut [44] from 30 to 44 (fun b wx => b = .bool (!decide (S[k]? = some ((d1, d2), d3))) ∧ wx = wc.drew)
        case first =>
          by_cases hks : k < s
          · obtain ⟨y, hy⟩ : ∃ y, S[k]? = some y := ⟨S[k]'(by have := HSL.out; omega), List.getElem?_eq_getElem _⟩
            obtain ⟨g3, o3, hA3, hg3, e0, e1, e2⟩ := HOX.out.ds.at_ hy
            have HY := Lib.hid hy
            clear hy
            subst hA3
            obtain ⟨⟨y1, y2⟩, y3⟩ := y
            simp only at e0 e1 e2
            have hkn : ((k : Int) == (s : Int)) = false := by simp; omega
            rcases four y1 y2 y3 d1 d2 d3 with ⟨rfl, rfl, rfl⟩ | he
            · have HE := Lib.hid (show (!decide (S[k]? = some ((y1, y2), y3))) = false by rw [HY.out]; simp)
              go_wp2_with fail
              go_region
              go_wp2
              go_meet
              exact ⟨congrArg Value.bool HE.out.symm, rfl⟩
            · have HE := Lib.hid (show (!decide (S[k]? = some ((d1, d2), d3))) = true by
                rw [HY.out]
                simp
                omega)
              rcases he with h1 | ⟨h1, h2⟩ | ⟨h1, h2, h3⟩
              all_goals
                go_wp2_with fail
                go_region
                go_wp2
                go_meet
                exact ⟨congrArg Value.bool HE.out.symm, rfl⟩
          · have hks' : k = s := by omega
            subst hks'
            have HE := Lib.hid (show (!decide (S[k]? = some ((d1, d2), d3))) = true by
              rw [List.getElem?_eq_none (by have := HSL.out; omega)]; simp)
            go_wp2_with fail
            go_region
            go_wp2
            go_meet
            exact ⟨congrArg Value.bool HE.out.symm, rfl⟩
        case rest =>
          obtain ⟨rfl, rfl⟩ := hcut
          cases hE : (!decide (S[k]? = some ((d1, d2), d3)))
          · have hs2 := Lib.hid (show S = (L.take (j + 1)).foldl insD [] by
              rw [← hstep.out, hins.out, if_pos (by simpa using hE)])
            clear hE
            go_wp2
            go_roundw
            case rel => exact ⟨j + 1, S, A3, c3, by omega, by go_num, by rw [HSL.out], by rw [HSL.out]; omega, hs2.out, HOX.out.drew, HBN.out.drew⟩
            case measure => simp [intOf]; omega
          · have hs2 := Lib.hid (show S.take k ++ ((d1, d2), d3) :: S.drop k = (L.take (j + 1)).foldl insD [] by
              rw [← hstep.out, hins.out, if_neg (by simpa using hE)])
            clear hE hins hstep
            have hHD := Lib.hid (And.intro HOX.out.drew HBN.out.drew)
            have d0 : wc.drew.cell? ⟨b0, o0 + j * 3, none⟩ = some (.int .i64 d1) := c0
            have d1' : wc.drew.cell? ⟨b0, o0 + j * 3 + 1, none⟩ = some (.int .i64 d2) := c1
            have d2' : wc.drew.cell? ⟨b0, o0 + j * 3 + 2, none⟩ = some (.int .i64 d3) := c2
            clear c0 c1 c2 HOX HBN
            generalize wc.drew = wd at *
            obtain ⟨hO, hbN⟩ := hHD.out
            have hNd : N ≤ wd.heap.size := by have := hbN.size; omega
            have hsl := HSL.out
            have hc3 : s ≤ c3 := by rw [← hsl]; exact hO.2.1
            have hDs : Ds wd.drew wd.heap.size A3 S := hO.ds
            have RT := hDs.front (k := k) (by omega)
            have RB := hDs.back (k := k) (c := c3) (by omega) (by omega)
            rw [hsl] at RB
            have lt1 : (S.take k).length = k := by rw [List.length_take]; omega
            have lt2 : (S.drop k).length = s - k := by rw [List.length_drop, hsl]
            have hT : ∀ W, (Instr.slice 43 (.slice A3 s c3) none (some (.int .i64 k)) none).run Try.prog W = .ok (.slice A3 k c3) W := fun W => run_to3 43 (by kernel_rfl) Try.sizeOf27 A3 s c3 k (by omega) W
            have hF : ∀ W, (Instr.slice 43 (.slice A3 s c3) (some (.int .i64 k)) none none).run Try.prog W = .ok (.slice (cut3 A3 c3 k) (s - k) (c3 - k)) W := fun W => run_from3 43 (by kernel_rfl) Try.sizeOf27 A3 s c3 k hk W
            have hsn : s ≤ 1000000 := by omega
            have hD0 : wd.drew.heap.size = wd.heap.size := rfl
            have oT := dts_one (S.take k)
            have oB := dts_one (S.drop k)
            have HU : ∀ o o' : Obj, Rd ((wd.drew.alloc o).alloc o') wd.heap.size 3 A3 k (dts (S.take k)) ∧ Rd ((wd.drew.alloc o).alloc o') wd.heap.size 3 (cut3 A3 c3 k) (s - k) (dts (S.drop k)) := fun o o' => ⟨(RT.alloc (Nat.le_refl _) o).alloc (by simp) o', (RB.alloc (Nat.le_refl _) o).alloc (by simp) o'⟩
            obtain ⟨A6a, c6a, w6a, A8a, c8a, w8a, A10a, c10a, w10a, p1, p2, p3, oa, ba, ba'⟩ := chainA (wd.drew.alloc (.cells #[] 27)) wd.heap.size wd.heap.size ((d1, d2), d3) A3 (cut3 A3 c3 k) k c3 (s - k) (c3 - k) _ _ (own_e3 _ _ _ (Nat.le_refl _)) (RT.alloc (Nat.le_refl _) _) oT (RB.alloc (Nat.le_refl _) _) oB (by omega) (by omega) (by simp)
            obtain ⟨A6b, c6b, w6b, A8b, c8b, w8b, A10b, c10b, w10b, q1, q2, q3, ob, bb, bb'⟩ := chainB ((wd.drew.alloc (.cells #[] 27)).alloc (.cells #[.int .i64 d1, .int .i64 d2, .int .i64 d3] 27)) wd.heap.size wd.heap.size (wd.heap.size + 1) ((d1, d2), d3) A3 (cut3 A3 c3 k) k c3 (s - k) (c3 - k) _ _ ((own_e3 _ _ _ (Nat.le_refl _)).alloc _) (by have := Whole.new (wd.drew.alloc (.cells #[] 27)) 27 #[.int .i64 d1, .int .i64 d2, .int .i64 d3]; simpa using this) (by omega) (HU _ _).1 oT (HU _ _).2 oB (by omega) (by omega) (by simp; omega)
            obtain ⟨A6c, c6c, w6c, A8c, c8c, w8c, A10c, c10c, w10c, r1, r2, r3, oc, bc, bc'⟩ := chainB ((wd.drew.alloc (.cells #[.int .i64 d1, .int .i64 d2, .int .i64 d3] 27)).alloc (.cells #[] 27)) wd.heap.size (wd.heap.size + 1) wd.heap.size ((d1, d2), d3) A3 (cut3 A3 c3 k) k c3 (s - k) (c3 - k) _ _ (by have := own_e3 (wd.drew.alloc (.cells #[.int .i64 d1, .int .i64 d2, .int .i64 d3] 27)) 27 wd.heap.size (by simp); simpa using this) ((Whole.new wd.drew 27 #[.int .i64 d1, .int .i64 d2, .int .i64 d3]).alloc _) (by omega) (HU _ _).1 oT (HU _ _).2 oB (by omega) (by omega) (by simp; omega)
            simp only at p2
            change Sem.run _ _ (World.drew (World.alloc wd (.cells #[] 27))) = _ at p1
            change Sem.run _ _ (World.drew (World.alloc (World.alloc wd (.cells #[] 27)) (.cells #[.int .i64 d1, .int .i64 d2, .int .i64 d3] 27))) = _ at q1
            change Sem.run _ _ (World.drew (World.alloc (World.alloc wd (.cells #[.int .i64 d1, .int .i64 d2, .int .i64 d3] 27)) (.cells #[] 27))) = _ at r1
            have hBa : Below wd.heap.size wd.drew w6a := ((Below.refl wd.heap.size wd.drew).alloc (show wd.heap.size ≤ wd.drew.heap.size from Nat.le_refl _) _).trans ba
            have l0 : w6a.cell? ⟨b0, o0 + j * 3, none⟩ = some (.int .i64 d1) := (hBa.cell (by simp only; omega)).trans d0
            have l1 : w6a.cell? ⟨b0, o0 + j * 3 + 1, none⟩ = some (.int .i64 d2) := (hBa.cell (by simp only; omega)).trans d1'
            have l2 : w6a.cell? ⟨b0, o0 + j * 3 + 2, none⟩ = some (.int .i64 d3) := (hBa.cell (by simp only; omega)).trans d2'
            have hb0' : b0 < wd.heap.size := by omega
            have FA := Lib.hid (And.intro oa (((Below.refl wd.heap.size wd.drew).alloc (show wd.heap.size ≤ wd.drew.heap.size from Nat.le_refl _) _).trans ba'))
            have FB := Lib.hid (And.intro ob ((((Below.refl wd.heap.size wd.drew).alloc (show wd.heap.size ≤ wd.drew.heap.size from Nat.le_refl _) _).alloc (by simp) _).trans bb'))
            have FC := Lib.hid (And.intro oc ((((Below.refl wd.heap.size wd.drew).alloc (show wd.heap.size ≤ wd.drew.heap.size from Nat.le_refl _) _).alloc (by simp) _).trans bc'))
            have HBD := Lib.hid hbN
            have LT := Lib.hid (And.intro lt1 lt2)
            have P1 := Lib.hid p1
            have P2 := Lib.hid p2
            have P3 := Lib.hid p3
            have Q1 := Lib.hid q1
            have Q2 := Lib.hid q2
            have Q3 := Lib.hid q3
            have R1 := Lib.hid r1
            have R2 := Lib.hid r2
            have R3 := Lib.hid r3
            clear p1 p2 p3 q1 q2 q3 r1 r2 r3 oa ba ba' ob bb bb' oc bc bc' hBa HU RT RB hDs hO hbN hsl lt1 lt2 hHD oT oB
            have hlen := Lib.hid (show (S.take k ++ ((d1, d2), d3) :: S.drop k).length = k + 1 + (s - k) by rw [List.length_append, List.length_cons, LT.out.1, LT.out.2]; omega)
            have hdts := Lib.hid (show dts (S.take k) ++ dtC ((d1, d2), d3) ++ dts (S.drop k) = dts (S.take k ++ ((d1, d2), d3) :: S.drop k) by simp [dts])
            go_upto_region 9 with fail
            go_region_law (first | ((with_reducible refine step_append_runs (o := ⟨some 49, _, _, _, _, _⟩) ?_ (.tmp 45) (.tmp 48) _ _ ?_ _ _ ?_ ?_ _ _ P1.out ?_); rfl; rfl; rfl; rfl) | ((with_reducible refine step_append_runs (o := ⟨some 55, _, _, _, _, _⟩) ?_ (.tmp 49) (.tmp 54) _ _ ?_ _ _ ?_ ?_ _ _ P2.out ?_); rfl; rfl; rfl; rfl) | ((with_reducible refine step_append_runs (o := ⟨some 59, _, _, _, _, _⟩) ?_ (.tmp 55) (.tmp 58) _ _ ?_ _ _ ?_ ?_ _ _ P3.out ?_); rfl; rfl; rfl; rfl) | ((with_reducible refine step_append_runs (o := ⟨some 49, _, _, _, _, _⟩) ?_ (.tmp 45) (.tmp 48) _ _ ?_ _ _ ?_ ?_ _ _ Q1.out ?_); rfl; rfl; rfl; rfl) | ((with_reducible refine step_append_runs (o := ⟨some 55, _, _, _, _, _⟩) ?_ (.tmp 49) (.tmp 54) _ _ ?_ _ _ ?_ ?_ _ _ Q2.out ?_); rfl; rfl; rfl; rfl) | ((with_reducible refine step_append_runs (o := ⟨some 59, _, _, _, _, _⟩) ?_ (.tmp 55) (.tmp 58) _ _ ?_ _ _ ?_ ?_ _ _ Q3.out ?_); rfl; rfl; rfl; rfl) | ((with_reducible refine step_append_runs (o := ⟨some 49, _, _, _, _, _⟩) ?_ (.tmp 45) (.tmp 48) _ _ ?_ _ _ ?_ ?_ _ _ R1.out ?_); rfl; rfl; rfl; rfl) | ((with_reducible refine step_append_runs (o := ⟨some 55, _, _, _, _, _⟩) ?_ (.tmp 49) (.tmp 54) _ _ ?_ _ _ ?_ ?_ _ _ R2.out ?_); rfl; rfl; rfl; rfl) | ((with_reducible refine step_append_runs (o := ⟨some 59, _, _, _, _, _⟩) ?_ (.tmp 55) (.tmp 58) _ _ ?_ _ _ ?_ ?_ _ _ R3.out ?_); rfl; rfl; rfl; rfl))
            all_goals
              go_wp2
              go_roundw
              case rel =>
                refine ⟨j + 1, S.take k ++ ((d1, d2), d3) :: S.drop k, _, _, by omega, by go_num, by rw [hlen.out], by rw [hlen.out]; omega, hs2.out, ?_⟩
                rw [hlen.out, ← hdts.out]
                first
                  | exact ⟨FA.out.1.base_le (by have := HBD.out.size; omega), HBD.out.drew.trans (below_of_le FA.out.2 (by have := HBD.out.size; omega))⟩
                  | exact ⟨FB.out.1.base_le (by have := HBD.out.size; omega), HBD.out.drew.trans (below_of_le FB.out.2 (by have := HBD.out.size; omega))⟩
                  | exact ⟨FC.out.1.base_le (by have := HBD.out.size; omega), HBD.out.drew.trans (below_of_le FC.out.2 (by have := HBD.out.size; omega))⟩
              case measure => simp [intOf]; omega
    · have hj' : j = n := by omega
      subst hj'
      have hd := Lib.hid (show S = dsort L by rw [HS.out, List.take_of_length_le (by have := HL.out; omega)]; rfl)
      have HO := Lib.hid hO
      have HB := Lib.hid hb
      clear hO hb
      go_wp2
      go_ret
      rw [← hd.out]
      exact ⟨_, _, rfl, HO.out, HB.out⟩
end Go.Proofs.Ytailbppddnegoaa
