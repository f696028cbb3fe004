/- maps.Keys over a map whose keys are actors, its iterator; slices.AppendSeq, slices.Collect. -/
import Derived.Test.YtailbppddnegoaaMA
import Derived.RangeFuncNested
import Derived.RangeFuncBound
import Derived.RangeFuncCalls
import Derived.RangeFuncLeaves
import Derived.Sort.MapsRangeIn
import Derived.WalkKit
import Derived.OwnWalkIn
import Derived.TacticsInMore
import Derived.RegionIn
import Derived.LoopNIn
import Derived.LoopIn
import Derived.Maps.AppendAt
namespace Go.Proofs.Ytailbppddnegoaa
open Go.RowKit Go.Maps
set_option linter.unusedVariables false
set_option maxRecDepth 100000
attribute [local go_sem] Oper.semAt_some

/-- The iterator: each key once, in some order. -/
theorem keys1_act (F : Fence) (n : Nat) (hf : F.fn 128) (hro : F.round = none) (hn : 1 ≤ n) (l Bm b : Nat) (M : List (Ac × Int)) (J Jx : List Ac → World → Prop)
    (hY : ∀ pre x W, J pre W → pre.length < M.length → YieldAt F (n - 1) Try.prog l #[acV x] W fun e W' => (e = .returned (.bool true) ∧ J (pre ++ [x]) W' ∧ KeepsWalks W W') ∨ (e = .returned (.bool false) ∧ Jx (pre ++ [x]) W'))
    (W : World) (hJ : AbidesFrom W.heap.size J) (hm : W.cell? ⟨Bm, 0, none⟩ = some (.map (some b))) (hown : MapIs Try.prog 25 3 acV acOk W b M) (h0 : J [] W) :
    CallsIn F n Try.prog 128 #[.func (.yield l) #[] #[], .pointer (some ⟨Bm, 0, none⟩)] W fun e W' => (∃ v, e = .returned v) ∧
      ((∃ ss : List Ac, ss.Perm (M.map (·.1)) ∧ J ss W') ∨ (∃ pre, True ∧ Jx pre W')) := by
  have hsz : Maps.size (DataW.map ((M.map (pE Try.prog 25 acV)).foldr DataW.insert [])) = M.length := by
    show List.length _ = _
    rw [length_sorted, List.length_map]
  have hCs := Come.start actor_key hown
  have hstep := fun left ss hC x hx y hlk hat => Come.step actor_key hown (left := left) (ss := ss) hC (x := x) hx (y := y) hlk hat
  have hperm := fun left ss hC hl => Come.perm hown (left := left) (ss := ss) hC hl
  have hown1 := hown.1
  clear hown
  generalize hD0 : (DataW.map ((M.map (pE Try.prog 25 acV)).foldr DataW.insert []) : DataW Unit) = D0 at *
  generalize hnn : M.length = nn at *
  refine callsIn_of_wp Try.func128 rfl hf ?_ hro
  simp only [Try.ntmps128, List.size_toArray, List.length_cons, List.length_nil, Nat.reduceAdd, Nat.reduceSub, Array.replicate_succ, Array.replicate_zero, List.push_toArray, List.append_toArray, List.nil_append, List.cons_append]
  gi_wp2_with (first
    | (gi_at_range; refine wpListIn_range_own _ rfl _ 114 rfl 25 3 actor_key.law Try.underlying114 _ b nn _ rfl hown1 ?_; intro w0 hrg0 hg0 hs0)
    | gi_in)
  have HS := Lib.hid hstep
  have HP := Lib.hid hperm
  clear hstep hperm hD0 hnn
  go_frame
  gi_loopw [3] (fun _ wr => ∃ (left : Lit → Bool) (cnt : Nat) (ss : List Ac), wr.ranges Try.prog 25 (plainElem Try.prog 3) b W.heap.size nn D0 left cnt ∧ ss.length + cnt ≤ nn ∧ Come Try.prog 25 acV acOk M left ss ∧ J ss wr)
    (fun _ wr => wr.rangeLeft b W.heap.size)
  case atStart =>
    exact ⟨_, _, [], hrg0, by simp [hsz], hCs, hJ [] W w0 none h0 hg0 (fun r e => by cases e)⟩
  case round =>
    obtain ⟨left, cnt, ss, hrg, hcs, hC, hJs⟩ := hrel
    gi_wp2_with (first
      | (gi_at_next; refine wpListIn_next_ranges _ rfl _ rfl 25 actor_key.law (plainElem Try.prog 3) acV id (fun key kl hk => by obtain ⟨x, _, hx⟩ := actor_key.inv _ _ hk; exact ⟨x, hx⟩) (fun v _ _ => ⟨v, rfl⟩) b W.heap.size nn _ _ _ rfl hrg ?_ ?_)
      | gi_in)
    · -- nothing is left
      intro hc0 hl0
      gi_wp2
      go_end0
      exact ⟨⟨_, rfl⟩, .inl ⟨ss, HP.out _ _ hC hl0, hJs⟩⟩
    · -- an entry has come
      intro d i c kl yd yp w2 cnt2 hkey hlk hv hat hrg2 hlt hg2 hs2 hen
      obtain ⟨x', okx, ex⟩ := actor_key.inv _ _ hkey
      obtain rfl : (d, i) = x' := actor_key.inj _ _ ex
      have hkl := actor_key.klit okx
      rw [hkey] at hkl
      obtain rfl := Option.some.inj hkl
      clear ex hkl
      have hJ2 : J ss w2 := hJ ss wr w2 (some W.heap.size) hJs hg2 (fun r e => by cases e; exact ⟨Nat.le_refl _, hrg.iter_walk⟩)
      have hC2 := HS.out _ _ hC _ okx _ hlk hat
      unfold acV at hen
      have hJ3 := hJ ss w2 (w2.alloc (.cells (acV (d, i)).cells 25)) none hJ2 (World.grownBy_alloc _ _ none) (fun r e => by cases e)
      have hk0 := KeepsWalks.alloc w2 (.cells (acV (d, i)).cells 25)
      obtain ⟨fn, tmps, assign, body, hy, hR⟩ := hY ss (d, i) _ hJ3 (by omega)
      have hRH := Lib.hid hR
      clear hR hs2
      simp only [acV, Value.cells] at hy hk0
      gi_wp2
      refine hRH.out.mono ?_
      rintro e W3 (⟨rfl, hJ4, hk4⟩ | ⟨rfl, hJx⟩)
      · gi_wp2
        have hrg3 := (hrg2.of_walks hk0).of_walks hk4
        go_roundw
        case rel => exact ⟨_, cnt2, ss ++ [(d, i)], hrg3, by simp; omega, hC2, hJ4⟩
        case measure => rw [hrg3.left_eq, hrg.left_eq]; exact hlt
      · gi_wp2
        refine bodyPost_ret (results_none rfl _ _ _) rfl ?_
        exact ⟨⟨_, rfl⟩, .inr ⟨_, trivial, hJx⟩⟩
theorem keysS_act (F : Fence) (n : Nat) (hf : F.fn 128) (hro : F.round = none) (hn : 1 ≤ n) (Bm b : Nat) (M : List (Ac × Int)) (w : World) (hBm : Bm < w.heap.size) (hm : w.cell? ⟨Bm, 0, none⟩ = some (.map (some b)))
    (hown : MapIs Try.prog 25 3 acV acOk w b M) :
    SeqStopsK F n Try.prog 128 #[.pointer (some ⟨Bm, 0, none⟩)] (fun x : Ac => #[acV x]) KeepsWalks (fun ss => ss.Perm (M.map (·.1))) (fun _ => True) M.length w := fun l J Jx W hW hJ _ hY h0 =>
  keys1_act F n hf hro hn l Bm b M J Jx hY W hJ ((hW.cell (p := ⟨Bm, 0, none⟩) hBm).trans hm) (hown.below hW hown.lt) h0
/-- maps.Keys: the map is boxed; the function value has the box. -/
theorem keysC_act (F : Fence) (n : Nat) (hf : F.fn 114) (hro : F.round = none) (mb : Option Nat) (w : World) :
    CallsIn F n Try.prog 114 #[.map mb] w fun e w' => e = .returned (.func (.func 128) #[] #[.pointer (some ⟨w.heap.size, 0, none⟩)]) ∧ w' = w.alloc (.cells #[.map mb] 114) := by
  refine callsIn_of_wp Try.func114 rfl hf ?_ hro
  simp only [Try.ntmps114, List.size_toArray, List.length_cons, List.length_nil, Nat.reduceAdd, Nat.reduceSub, Array.replicate_succ, Array.replicate_zero, List.push_toArray, List.append_toArray, List.nil_append, List.cons_append]
  gi_wp2
  go_ret
  exact ⟨rfl, rfl⟩
theorem info_act : (Try.prog.info? 25).map (fun i => (i.zero, i.size, i.bytes)) = some (some (.agg #[.int .i64 0, .int .i64 0]), 2, 16) := by kernel_rfl
theorem cells_new_act (W : World) (t : TypeId) (x : Ac) : ∀ (j : Nat) (u : Value), (acC x)[j]? = some u → (W.alloc (.cells (acC x).toArray t)).cell? ((⟨W.heap.size, 0, none⟩ : Addr).add j) = some u := fun j u hu => by
  have := (Whole.new W t (acC x).toArray).cell (0 + j)
  have e : ((⟨W.heap.size, 0, none⟩ : Addr).add j) = ⟨W.heap.size, 0 + j, none⟩ := by simp [Addr.add]; try omega
  rw [e, this, Nat.zero_add]
  simpa using hu
theorem whole_own_act (B : Nat) (t : TypeId) (cs : Array Value) : Go.Own (fun (_ : Unit) W => Whole W B t cs) := fun s X Y row hs hg hrow =>
  hs.grown hg (fun e' => by obtain ⟨o, ho, hc⟩ := hrow B e'; rw [show X.heap[B]? = _ from hs] at ho; cases ho; cases hc)
set_option maxHeartbeats 4000000 in
/-- slices.AppendSeq(nil, seq): what the iterator gives, in its order; nil just where it gives nothing. -/
theorem appendSeq_act (F : Fence) (n : Nat) (hf : F.fn 134) (hro : F.round = none) (hn : 3 ≤ n) (g : Nat) (lb : Array Value) (hFg : F.fn g) (eg : ∀ args w, (callFunc g args).run Try.prog w = .ok (.enter g args) w)
    (S : List Ac → Prop) (Sp : List Ac → Prop) (N : Nat) (hN : N ≤ maxLen) (hNb : N * 16 ≤ 140737488355328) (w : World) (hseq : SeqStopsK F (n - 1) Try.prog g lb (fun x : Ac => #[acV x]) KeepsWalks S Sp N w) :
    CallsIn F n Try.prog 134 #[.slice none 0 0, .func (.func g) #[] lb] w fun e w' => ∃ (v : Value) (ss : List Ac), e = .returned v ∧ S ss ∧ ss.length ≤ N ∧ w'.ownsRow w.heap.size 25 2 v ss.length (ss.flatMap acC) ∧ Below w.heap.size w w' := by
  have h1 : 1 ≤ n := by omega
  obtain ⟨i0, hi, hz0, hz1, hz2⟩ := info_parts info_act
  refine callsIn_of_wp_marks Try.func134 rfl hf ?_ hro
  simp only [Try.ntmps134, List.size_toArray, List.length_cons, List.length_nil, Nat.reduceAdd, Nat.reduceSub, Array.replicate_succ, Array.replicate_zero, List.push_toArray, List.append_toArray, List.nil_append, List.cons_append]
  gi_wp2
  have bO := Boxed.new w 118 (.slice none 0 0)
  have hB0 : Below w.heap.size w (w.alloc (.cells #[.slice none 0 0] 118)) := (Below.refl _ w).alloc (Nat.le_refl _) _
  have hs0 : (w.alloc (.cells #[.slice none 0 0] 118)).heap.size = w.heap.size + 1 := by simp
  have hseq0 : SeqStopsK F (n - 1) Try.prog g lb (fun x : Ac => #[acV x]) KeepsWalks S Sp N (w.alloc (.cells #[.slice none 0 0] 118)) := fun l J Jx W hW => hseq l J Jx W (hB0.trans (hW.mono hB0.size))
  generalize w.alloc (.cells #[.slice none 0 0] 118) = W0 at *
  refine wpIn_rangeFunc_ownH hro h1 (gf := g) (lb := lb) rfl hFg eg hseq0 walksK_t walksK_b (Below.refl _ _) (fun _ => rfl)
    (fun pre W => ((∃ v, Boxed W w.heap.size 118 v ∧ W.ownsRow w.heap.size 25 2 v pre.length (pre.flatMap acC) ∧ True) ∧ Below w.heap.size w W) ∧ pre.length ≤ N)
    (fun _ _ _ => False)
    (OwnFrom.and (OwnFrom.and (Go.Own.from (holdsRow_own w.heap.size w.heap.size 118 25 2 (fun pre : List Ac => pre.length) (fun pre : List Ac => pre.flatMap acC) (fun (pre : List Ac) v => True)) _) (ownFrom_below (Nat.le_refl _) (by omega))) (ownFrom_pure _ (fun pre : List Ac => pre.length ≤ N)))
    (fun _ _ _ _ _ hs _ _ => hs)
    ⟨⟨⟨_, bO, World.ownsRow_nil _ _ _ _, trivial⟩, hB0⟩, Nat.zero_le _⟩
    (fun x a' W => ∃ Bx, w.heap.size < Bx ∧ Whole W Bx 25 (acC x).toArray ∧ a' = { tmps := #[.slice none 0 0, .func (.func g) #[] lb, .pointer (some ⟨w.heap.size, 0, none⟩), undef, .slice none 0 0, .pointer (some ⟨Bx, 0, none⟩), .func (.func g) #[] lb, acV x, undef, undef, undef, undef, undef], defers := [] })
    (fun x a' _ X Y row hs hg hr => by obtain ⟨Bx, h1, h2, h3⟩ := hs; exact ⟨Bx, h1, whole_own_act Bx 25 (acC x).toArray () X Y row h2 hg (fun r e => (hr r e).2), h3⟩)
    ?assign ?body ?done ?stop
  case assign =>
    rintro l pre ⟨d, i⟩ W K ⟨⟨⟨v, hv, hrow, _⟩, hB⟩, hl⟩ hK
    unfold acV
    gi_wp2
    exact hK _ _ ((KeepsOthers.alloc _ _).from _) (KeepsWalks.alloc _ _) ⟨⟨⟨v, hv.alloc _, hrow.alloc _, trivial⟩, hB.alloc hB.size _⟩, hl⟩ ⟨W.heap.size, hv.lt, Whole.new W 25 _, rfl⟩
  case body =>
    rintro l pre ⟨d, i⟩ a' W hl ⟨r, hr⟩ ⟨⟨⟨v, hv, hrow, _⟩, hB⟩, hle⟩ ⟨Bx, hBx, bX, rfl⟩ hlt
    have hc := hv.cell
    have hne : 118 ≠ 25 := by decide
    have c0 := bX.cell 0
    have c1 := bX.cell 1
    simp only [acC] at c0 c1
    change _ = some _ at c0
    change _ = some _ at c1
    have hcn := cells_new_act W 25 (d, i)
    unfold acC at hcn
    gi_wp2_with (gi_at_builtin; refine wpListIn_append_own _ rfl _ _ 118 rfl w.heap.size 25 i0 (.agg #[.int .i64 0, .int .i64 0]) 2 16 Try.underlying118 hi hz0 hz1 hz2 rfl (by decide) _ _ _ rfl (hrow.alloc _) ⟨W.heap.size, 0, none⟩ 1 1 (acC (d, i)) rfl rfl hcn (by simp [Value.oneCell', acC]) (by omega) (by omega) (by have := hB.size; simp; omega) ?_; intro v' w1 hown' hgrow _; obtain ⟨g', cap', rfl⟩ := ownsRow_succ hown'; obtain ⟨hv1, hv2, hr2, hk2, hb2⟩ := hv.appended hne hrow hB.size (Nat.le_refl _) hown' hgrow; have hc1 := hv1.cell; have hf1 := hv1.frozen)
    refine ⟨hk2.from _, hk2.walks, ⟨⟨_, hv2, ?_⟩, hB.trans hb2⟩, by simp; omega⟩
    have e1 : (pre ++ [(d, i)]).length = pre.length + 1 := by simp
    have e2 : (pre ++ [(d, i)]).flatMap acC = pre.flatMap acC ++ acC (d, i) := by simp
    rw [e1, e2]
    exact hr2
  case done =>
    rintro D ys W hD hS ⟨⟨⟨v, hv, hrow, _⟩, hB⟩, hle⟩ hK
    have hc := hv.cell
    gi_wp2
    refine ⟨by simp, .inl ⟨_, _, rfl, run_takeDeferred hK, ?_⟩⟩
    exact ⟨_, results_tmp rfl _ _ _, v, ys, rfl, hS, hle, ownsRow_putObj hrow _ hK rfl, hB.trans (belowK_b (w := w) (Nat.le_refl _) W D _ _ (by omega) hK rfl rfl)⟩
  case stop =>
    rintro D c pre W _ _ h _
    exact h.elim
set_option maxHeartbeats 4000000 in
theorem collect_act (F : Fence) (n : Nat) (hf : F.fn 126) (hf2 : F.fn 134) (hro : F.round = none) (hn : 4 ≤ n) (g : Nat) (lb : Array Value) (hFg : F.fn g) (eg : ∀ args w, (callFunc g args).run Try.prog w = .ok (.enter g args) w)
    (S : List Ac → Prop) (Sp : List Ac → Prop) (N : Nat) (hN : N ≤ maxLen) (hNb : N * 16 ≤ 140737488355328) (w : World) (hseq : SeqStopsK F (n - 1 - 1) Try.prog g lb (fun x : Ac => #[acV x]) KeepsWalks S Sp N w) :
    CallsIn F n Try.prog 126 #[.func (.func g) #[] lb] w fun e w' => ∃ (v : Value) (ss : List Ac), e = .returned v ∧ S ss ∧ ss.length ≤ N ∧ w'.ownsRow w.heap.size 25 2 v ss.length (ss.flatMap acC) ∧ Below w.heap.size w w' := by
  have h1 : 1 ≤ n := by omega
  have hA := Lib.hid (appendSeq_act F (n - 1) hf2 hro (by omega) g lb hFg eg S Sp N hN hNb w hseq)
  clear hseq
  refine callsIn_of_wp Try.func126 rfl hf ?_ hro
  simp only [Try.ntmps126, List.size_toArray, List.length_cons, List.length_nil, Nat.reduceAdd, Nat.reduceSub, Array.replicate_succ, Array.replicate_zero, List.push_toArray, List.append_toArray, List.nil_append, List.cons_append]
  gi_wp2_with (gi_at_call 134; refine hA.out.mono ?_; rintro e w' ⟨v, ss, rfl, hS, hl, hrow, hb⟩)
  go_ret
  exact ⟨v, ss, rfl, hS, hl, hrow, hb⟩
end Go.Proofs.Ytailbppddnegoaa
