/- slices.SortFunc at dots (the shelf's contract, laid in plain words by a program of mine), and SortedFunc of maps.Keys. -/
import Derived.Test.YtailbppddnegoaaM3
import Derived.Test.YtailbppddnegoaaSS
import Derived.Shelf.SlSortCmp.NoneTotal
namespace Go.Proofs.Ytailbppddnegoaa
open Go.RowKit Go.Sort Go.Shelf
set_option linter.unusedVariables false
set_option maxRecDepth 100000

def sortDot_ren : Go.Shelf.Ren := ⟨fun | 6 => 118 | 15 => 132 | 14 => 131 | 28 => 144 | 29 => 145 | 20 => 136 | 21 => 137 | 22 => 138 | 23 => 139 | 24 => 140 | 25 => 141 | 26 => 142 | 27 => 143 | 46 => 154 | 47 => 155 | 48 => 156 | 49 => 157 | 50 => 158 | 57 => 162 | n => n, fun | 22 => 43 | 24 => 27 | 25 => 127 | 3 => 3 | 39 => 170 | 0 => 0 | 53 => 181 | 55 => 139 | 4 => 4 | 46 => 175 | 45 => 174 | 50 => 133 | 5 => 5 | 9 => 9 | 66 => 188 | 70 => 192 | 76 => 196 | 77 => 197 | n => n, fun | n => n⟩
theorem sortDot : Go.Proofs.SlLaysF0.n6 Try.prog sortDot_ren := {
  mixed := by kernel_rfl
  f6 := ⟨Try.f118.name, by decide, Try.func118.trans (congrArg some (by kernel_rfl))⟩
  f14 := ⟨Try.f131.name, by decide, Try.func131.trans (congrArg some (by kernel_rfl))⟩
  f15 := Try.func132.trans (congrArg some (by kernel_rfl))
  f20 := ⟨Try.f136.name, by decide, Try.func136.trans (congrArg some (by kernel_rfl))⟩
  f21 := ⟨Try.f137.name, by decide, Try.func137.trans (congrArg some (by kernel_rfl))⟩
  f22 := ⟨Try.f138.name, by decide, Try.func138.trans (congrArg some (by kernel_rfl))⟩
  f23 := ⟨Try.f139.name, by decide, Try.func139.trans (congrArg some (by kernel_rfl))⟩
  f24 := ⟨Try.f140.name, by decide, Try.func140.trans (congrArg some (by kernel_rfl))⟩
  f25 := ⟨Try.f141.name, by decide, Try.func141.trans (congrArg some (by kernel_rfl))⟩
  f26 := ⟨Try.f142.name, by decide, Try.func142.trans (congrArg some (by kernel_rfl))⟩
  f27 := ⟨Try.f143.name, by decide, Try.func143.trans (congrArg some (by kernel_rfl))⟩
  f28 := Try.func144.trans (congrArg some (by kernel_rfl))
  f29 := Try.func145.trans (congrArg some (by kernel_rfl))
  f46 := ⟨Try.f154.name, by decide, Try.func154.trans (congrArg some (by kernel_rfl))⟩
  f47 := Try.func155.trans (congrArg some (by kernel_rfl))
  f48 := Try.func156.trans (congrArg some (by kernel_rfl))
  f49 := ⟨Try.f157.name, by decide, Try.func157.trans (congrArg some (by kernel_rfl))⟩
  f50 := ⟨Try.f158.name, by decide, Try.func158.trans (congrArg some (by kernel_rfl))⟩
  f57 := ⟨Try.f162.name, by decide, Try.func162.trans (congrArg some (by kernel_rfl))⟩
  t0 := Try.underlying0
  a0 := Try.isAgg0
  z0 := Try.sizeOf0
  v0 := Try.zeroValue0
  t3 := Try.underlying3
  a3 := Try.isAgg3
  z3 := Try.sizeOf3
  v3 := Try.zeroValue3
  t4 := Try.underlying4
  a4 := Try.isAgg4
  z4 := Try.sizeOf4
  v4 := Try.zeroValue4
  t5 := Try.underlying5
  a5 := Try.isAgg5
  z5 := Try.sizeOf5
  v5 := Try.zeroValue5
  t9 := Try.underlying9
  a9 := Try.isAgg9
  z9 := Try.sizeOf9
  v9 := Try.zeroValue9
  t22 := Try.underlying43
  a22 := Try.isAgg43
  z22 := Try.sizeOf43
  v22 := Try.zeroValue43
  t25 := Try.underlying127
  a25 := Try.isAgg127
  z25 := Try.sizeOf127
  v25 := Try.zeroValue127
  t39 := Try.underlying170
  a39 := Try.isAgg170
  z39 := Try.sizeOf170
  v39 := Try.zeroValue170
  t45 := Try.underlying174
  a45 := Try.isAgg174
  z45 := Try.sizeOf174
  v45 := Try.zeroValue174
  t46 := Try.underlying175
  a46 := Try.isAgg175
  z46 := Try.sizeOf175
  v46 := Try.zeroValue175
  t50 := Try.underlying133
  a50 := Try.isAgg133
  z50 := Try.sizeOf133
  v50 := Try.zeroValue133
  t53 := Try.underlying181
  a53 := Try.isAgg181
  z53 := Try.sizeOf181
  v53 := Try.zeroValue181
  t55 := Try.underlying139
  a55 := Try.isAgg139
  z55 := Try.sizeOf139
  v55 := Try.zeroValue139
  t66 := Try.underlying188
  a66 := Try.isAgg188
  z66 := Try.sizeOf188
  v66 := Try.zeroValue188
  t70 := Try.underlying192
  a70 := Try.isAgg192
  z70 := Try.sizeOf192
  v70 := Try.zeroValue192
  t76 := Try.underlying196
  a76 := Try.isAgg196
  z76 := Try.sizeOf196
  v76 := Try.zeroValue196
  t77 := Try.underlying197
  a77 := Try.isAgg197
  z77 := Try.sizeOf197
  v77 := Try.zeroValue197 }


def cfdot (x y : Dt) : Int := ordI x.1.1 x.1.2 x.2 y.1.1 y.1.2 y.2
theorem ltOf_dot (x y : Dt) : ltOf cfdot x y = dLt x y := by
  unfold ltOf cfdot ordI orI cmpI dLt
  rw [decide_eq_decide]
  repeat' split
  all_goals first | omega | (simp at *; omega)
theorem swo_dot : SWO (ltOf cfdot) where
  irrefl x := by rw [ltOf_dot]; exact dLt_irrefl x
  trans x y z h k := by rw [ltOf_dot] at *; exact dLt_trans h k
  ntrans x y z h k := by
    rw [ltOf_dot] at *
    simp only [dLt, decide_eq_false_iff_not] at *
    omega
theorem clos_dot (x y : Dt) (W : World) : Calls Try.prog 91 #[.agg (dtC x).toArray, .agg (dtC y).toArray] W fun e w' => e = .returned (.int .i64 (cfdot x y)) ∧ UpN W.heap.size W w' := by
  obtain ⟨⟨d, i⟩, s⟩ := x
  obtain ⟨⟨d', i'⟩, s'⟩ := y
  have C1 := Lib.hid (fun w => order_up d i s d' i' s' w)
  unfold cfdot
  simp only
  generalize ordI d i s d' i' s' = z at *
  unfold dotV at C1
  have hU := Lib.hid (up_boxes W 27 #[.int .i64 d, .int .i64 i, .int .i64 s] #[.int .i64 d', .int .i64 i', .int .i64 s'])
  change Calls _ _ #[.agg #[.int .i64 d, .int .i64 i, .int .i64 s], .agg #[.int .i64 d', .int .i64 i', .int .i64 s']] _ _
  go_enter Try.func91, Try.ntmps91
  go_wp2_with fail
  refine (C1.out _).mono ?_; rintro e w1 ⟨rfl, b1⟩
  go_wp2
  go_ret
  exact ⟨rfl, hU.out.trans (b1.le (by simp; omega))⟩
theorem cmpLays_dot (blk off size : Nat) (w : World) : CmpLays Try.prog 91 #[] dtC 3 cfdot blk off size w :=
  fun _ _ _ _ x y => (clos_dot x y _).mono fun _ _ ⟨he, hu⟩ => ⟨he, hu.grow⟩
theorem sortF_dot (blk cap : Nat) (ss L : List Dt) (w : World) (hH : HoldsK dtC 3 w blk 0 ss.toArray) (hblk : blk < w.heap.size) (hsz : ss.length < 4611686018427387904) (hs : L.Pairwise fun x y => dLt x y = true) (hp : ss.Perm L) :
    Calls Try.prog 118 #[.slice (some ⟨blk, 0, none⟩) ss.length cap, .func (.func 91) #[] #[]] w fun e w' => e = .returned (.tuple #[]) ∧ ∃ n os, w' = sortWorldK dtC 3 w blk 0 n L.toArray os := by
  have eg : ∀ args w, (callFunc 91 args).run Try.prog w = .ok (.enter 91 args) w := enters_of Try.func91 (by kernel_rfl) rfl
  have h := AnyQ.slices_SortFunc_total sortDot 3 Try.isAgg27 Try.sizeOf27 dtC (fun _ => rfl) (fun x v hv => by simp [dtC] at hv; rcases hv with rfl | rfl | rfl <;> rfl) cfdot swo_dot 91 #[] blk 0 cap ss.toArray w eg (cmpLays_dot blk 0 _ w) hH hblk (by simpa using hsz)
    (fun x y h k => by rw [ltOf_dot] at *; exact dLt_tri h k)
  have e : (ss.toArray.toList.mergeSort fun x y => !(ltOf cfdot) y x) = L := by
    have e1 : (fun x y => !(ltOf cfdot) y x) = fun x y => !dLt y x := by funext x y; rw [ltOf_dot]
    rw [e1]
    exact pw_sort dLt_irrefl (fun _ _ _ => dLt_trans) (fun _ _ => dLt_tri) hs hp
  rw [e] at h
  change Calls Try.prog 118 _ _ _ at h
  simpa using h
theorem sortN_dot (p : Option Addr) (cap : Nat) (fv : Value) (w : World) : Calls Try.prog 118 #[.slice p 0 cap, fv] w fun e w' => e = .returned (.tuple #[]) ∧ w' = w :=
  AnyF.slices_SortFunc_none sortDot p cap fv w
/-- slices.Collect(maps.Keys(m)), the iterator made. -/
theorem collectK_dot (Bm b : Nat) (M : List (Dt × Int)) (w : World) (hBm : Bm < w.heap.size) (hm : w.cell? ⟨Bm, 0, none⟩ = some (.map (some b))) (hown : MapIs Try.prog 27 3 dtV dtOk w b M) (hN : M.length ≤ 1000000) :
    Calls Try.prog 117 #[.func (.func 119) #[] #[.pointer (some ⟨Bm, 0, none⟩)]] w fun e w' => ∃ (v : Value) (ss : List Dt), e = .returned v ∧ ss.Perm (M.map (·.1)) ∧ w'.ownsRow w.heap.size 27 3 v ss.length (ss.flatMap dtC) ∧ Below w.heap.size w w' := by
  have eg : ∀ args w, (callFunc 119 args).run Try.prog w = .ok (.enter 119 args) w := enters_of Try.func119 (by kernel_rfl) rfl
  refine (callsIn_wide (n := 9)).1 ((collect_dot Fence.wide 9 trivial trivial rfl (by omega) 119 #[.pointer (some ⟨Bm, 0, none⟩)] trivial eg _ _ M.length (by simp only [maxLen]; omega) (by omega) w (keysS_dot Fence.wide 7 trivial rfl (by omega) Bm b M w hBm hm hown)).mono ?_)
  rintro e w' ⟨v, ss, rfl, hS, _, hrow, hb⟩
  exact ⟨v, ss, rfl, hS, hrow, hb⟩
/-- slices.SortedFunc(maps.Keys(m), cmp): the keys in order. -/
theorem sortedK_dot (Bm b : Nat) (M : List (Dt × Int)) (L : List Dt) (w : World) (hBm : Bm < w.heap.size) (hm : w.cell? ⟨Bm, 0, none⟩ = some (.map (some b))) (hown : MapIs Try.prog 27 3 dtV dtOk w b M) (hN : M.length ≤ 1000000)
    (hs : L.Pairwise fun x y => dLt x y = true) (hp : (M.map (·.1)).Perm L) :
    Calls Try.prog 89 #[.func (.func 119) #[] #[.pointer (some ⟨Bm, 0, none⟩)], .func (.func 91) #[] #[]] w fun e w' => ∃ A c, e = .returned (.slice A L.length c) ∧ Own w' w.heap.size 27 3 A L.length c (L.flatMap dtC) ∧ Below w.heap.size w w' := by
  have C1 := Lib.hid (collectK_dot Bm b M w hBm hm hown hN)
  have hlen : M.length = L.length := by have := hp.length_eq; simpa using this
  have HL := Lib.hid hlen
  have HN := Lib.hid hN
  have HP := Lib.hid hp
  clear hlen hN hp
  go_enter Try.func89, Try.ntmps89
  go_wp2_with (go_at_call 117; refine C1.out.mono ?_; rintro e W ⟨v, ss, rfl, hS, hrow, hb⟩)
  have hp2 : ss.Perm L := hS.trans HP.out
  have hl2 : ss.length = L.length := hp2.length_eq
  rcases hrow.2 with ⟨rfl, hz⟩ | ⟨gb, cap, cur, rfl, hbase, hgb, r1, r2, r3, r4⟩
  · have hss : ss = [] := List.eq_nil_of_length_eq_zero hz
    subst hss
    have hL : L = [] := List.eq_nil_of_length_eq_zero (by simpa using hl2.symm)
    subst hL
    have S1 := Lib.hid (sortN_dot none 0 (.func (.func 91) #[] #[]) W)
    go_wp2_with (go_at_call 118; refine S1.out.mono ?_; rintro e w' ⟨rfl, rfl⟩)
    go_ret
    exact ⟨none, 0, rfl, Own.nil_, hb⟩
  · have hH : HoldsK dtC 3 W gb 0 ss.toArray := holdsK_of_row dtC 3 (fun _ => rfl) hgb r4
    have hgl : gb < W.heap.size := (Array.getElem?_eq_some_iff.1 hgb).1
    have hlen2 : ss.length < 4611686018427387904 := by have := HL.out; have := HN.out; omega
    have S1 := Lib.hid (sortF_dot gb cap ss L W hH hgl hlen2 hs hp2)
    have HR := Lib.hid (fun (n : Nat) (os : Array Obj) => ownsRow_sortedK (n := n) (os := os) dtC 3 (fun _ => rfl) hl2.symm hbase hgb r1 r2 r3)
    have HB := Lib.hid (fun (n : Nat) (os : Array Obj) => hb.grown (grownBy_sortedK (n := n) (os := os) dtC 3 L.toArray) hb.size (fun j hj => by cases hj; exact hbase))
    have HC := Lib.hid (And.intro r1 r2)
    have HLL := Lib.hid hl2
    clear hrow hH hgb r1 r2 r3 r4 hp2 hl2 hlen2 hs
    go_wp2_with (go_at_call 118; refine S1.out.mono ?_; rintro e w' ⟨rfl, n, os, rfl⟩)
    go_ret
    have hr := HR.out n os
    have hll := HLL.out
    rw [hll] at hr ⊢
    refine ⟨some ⟨gb, 0, none⟩, cap, rfl, ⟨hr, ?_, ?_⟩, HB.out n os⟩
    · have := HC.out.1; omega
    · exact HC.out.2
end Go.Proofs.Ytailbppddnegoaa
