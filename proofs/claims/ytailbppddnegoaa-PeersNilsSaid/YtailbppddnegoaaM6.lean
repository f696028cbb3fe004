/- slices.SortFunc at actors (the shelf's contract, laid in plain words by a program of mine), and SortedFunc of maps.Keys. -/
import Derived.Test.YtailbppddnegoaaM4
import Derived.Test.YtailbppddnegoaaSS
import Derived.Shelf.SlSortCmp.NoneTotal
namespace Go.Proofs.Ytailbppddnegoaa
open Go.RowKit Go.Sort Go.Shelf
set_option linter.unusedVariables false
set_option maxRecDepth 100000

def sortActor_ren : Go.Shelf.Ren := ⟨fun | 6 => 127 | 15 => 132 | 14 => 135 | 28 => 144 | 29 => 145 | 20 => 146 | 21 => 147 | 22 => 148 | 23 => 149 | 24 => 150 | 25 => 151 | 26 => 152 | 27 => 153 | 46 => 159 | 47 => 155 | 48 => 156 | 49 => 160 | 50 => 161 | 57 => 163 | n => n, fun | 22 => 118 | 24 => 25 | 25 => 145 | 3 => 3 | 39 => 170 | 0 => 0 | 53 => 181 | 55 => 139 | 4 => 4 | 46 => 175 | 45 => 174 | 50 => 133 | 5 => 5 | 9 => 9 | 66 => 188 | 70 => 192 | 76 => 196 | 77 => 197 | n => n, fun | n => n⟩
theorem sortActor : Go.Proofs.SlLaysF0.n6 Try.prog sortActor_ren := {
  mixed := by kernel_rfl
  f6 := ⟨Try.f127.name, by decide, Try.func127.trans (congrArg some (by kernel_rfl))⟩
  f14 := ⟨Try.f135.name, by decide, Try.func135.trans (congrArg some (by kernel_rfl))⟩
  f15 := Try.func132.trans (congrArg some (by kernel_rfl))
  f20 := ⟨Try.f146.name, by decide, Try.func146.trans (congrArg some (by kernel_rfl))⟩
  f21 := ⟨Try.f147.name, by decide, Try.func147.trans (congrArg some (by kernel_rfl))⟩
  f22 := ⟨Try.f148.name, by decide, Try.func148.trans (congrArg some (by kernel_rfl))⟩
  f23 := ⟨Try.f149.name, by decide, Try.func149.trans (congrArg some (by kernel_rfl))⟩
  f24 := ⟨Try.f150.name, by decide, Try.func150.trans (congrArg some (by kernel_rfl))⟩
  f25 := ⟨Try.f151.name, by decide, Try.func151.trans (congrArg some (by kernel_rfl))⟩
  f26 := ⟨Try.f152.name, by decide, Try.func152.trans (congrArg some (by kernel_rfl))⟩
  f27 := ⟨Try.f153.name, by decide, Try.func153.trans (congrArg some (by kernel_rfl))⟩
  f28 := Try.func144.trans (congrArg some (by kernel_rfl))
  f29 := Try.func145.trans (congrArg some (by kernel_rfl))
  f46 := ⟨Try.f159.name, by decide, Try.func159.trans (congrArg some (by kernel_rfl))⟩
  f47 := Try.func155.trans (congrArg some (by kernel_rfl))
  f48 := Try.func156.trans (congrArg some (by kernel_rfl))
  f49 := ⟨Try.f160.name, by decide, Try.func160.trans (congrArg some (by kernel_rfl))⟩
  f50 := ⟨Try.f161.name, by decide, Try.func161.trans (congrArg some (by kernel_rfl))⟩
  f57 := ⟨Try.f163.name, by decide, Try.func163.trans (congrArg some (by kernel_rfl))⟩
  t0 := Try.underlying0
  a0 := Try.isAgg0
  z0 := Try.sizeOf0
  v0 := Try.zeroValue0
  t3 := Try.underlying3
  a3 := Try.isAgg3
  z3 := Try.sizeOf3
  v3 := Try.zeroValue3
  t4 := Try.underlying4
  a4 := Try.isAgg4
  z4 := Try.sizeOf4
  v4 := Try.zeroValue4
  t5 := Try.underlying5
  a5 := Try.isAgg5
  z5 := Try.sizeOf5
  v5 := Try.zeroValue5
  t9 := Try.underlying9
  a9 := Try.isAgg9
  z9 := Try.sizeOf9
  v9 := Try.zeroValue9
  t22 := Try.underlying118
  a22 := Try.isAgg118
  z22 := Try.sizeOf118
  v22 := Try.zeroValue118
  t25 := Try.underlying145
  a25 := Try.isAgg145
  z25 := Try.sizeOf145
  v25 := Try.zeroValue145
  t39 := Try.underlying170
  a39 := Try.isAgg170
  z39 := Try.sizeOf170
  v39 := Try.zeroValue170
  t45 := Try.underlying174
  a45 := Try.isAgg174
  z45 := Try.sizeOf174
  v45 := Try.zeroValue174
  t46 := Try.underlying175
  a46 := Try.isAgg175
  z46 := Try.sizeOf175
  v46 := Try.zeroValue175
  t50 := Try.underlying133
  a50 := Try.isAgg133
  z50 := Try.sizeOf133
  v50 := Try.zeroValue133
  t53 := Try.underlying181
  a53 := Try.isAgg181
  z53 := Try.sizeOf181
  v53 := Try.zeroValue181
  t55 := Try.underlying139
  a55 := Try.isAgg139
  z55 := Try.sizeOf139
  v55 := Try.zeroValue139
  t66 := Try.underlying188
  a66 := Try.isAgg188
  z66 := Try.sizeOf188
  v66 := Try.zeroValue188
  t70 := Try.underlying192
  a70 := Try.isAgg192
  z70 := Try.sizeOf192
  v70 := Try.zeroValue192
  t76 := Try.underlying196
  a76 := Try.isAgg196
  z76 := Try.sizeOf196
  v76 := Try.zeroValue196
  t77 := Try.underlying197
  a77 := Try.isAgg197
  z77 := Try.sizeOf197
  v77 := Try.zeroValue197 }


def cfact (x y : Ac) : Int := orI (cmpI x.1 y.1) (cmpI x.2 y.2)
theorem ltOf_act (x y : Ac) : ltOf cfact x y = aLt x y := by
  unfold ltOf cfact  orI cmpI aLt
  rw [decide_eq_decide]
  repeat' split
  all_goals first | omega | (simp at *; omega)
theorem swo_act : SWO (ltOf cfact) where
  irrefl x := by rw [ltOf_act]; exact aLt_irrefl x
  trans x y z h k := by rw [ltOf_act] at *; exact aLt_trans h k
  ntrans x y z h k := by
    rw [ltOf_act] at *
    simp only [aLt, decide_eq_false_iff_not] at *
    omega
theorem clos_act (x y : Ac) (W : World) : Calls Try.prog 115 #[.agg (acC x).toArray, .agg (acC y).toArray] W fun e w' => e = .returned (.int .i64 (cfact x y)) ∧ UpN W.heap.size W w' := by
  obtain ⟨d, i⟩ := x
  obtain ⟨d', i'⟩ := y
  have C1 := Lib.hid (fun w => compare_up d i d' i' w)
  unfold cfact
  simp only
  generalize orI (cmpI d d') (cmpI i i') = z at *
  unfold actV at C1
  have hU := Lib.hid (up_boxes W 25 #[.int .i64 d, .int .i64 i] #[.int .i64 d', .int .i64 i'])
  change Calls _ _ #[.agg #[.int .i64 d, .int .i64 i], .agg #[.int .i64 d', .int .i64 i']] _ _
  go_enter Try.func115, Try.ntmps115
  go_wp2_with fail
  refine (C1.out _).mono ?_; rintro e w1 ⟨rfl, b1⟩
  go_wp2
  go_ret
  exact ⟨rfl, hU.out.trans (b1.le (by simp; omega))⟩
theorem cmpLays_act (blk off size : Nat) (w : World) : CmpLays Try.prog 115 #[] acC 2 cfact blk off size w :=
  fun _ _ _ _ x y => (clos_act x y _).mono fun _ _ ⟨he, hu⟩ => ⟨he, hu.grow⟩
theorem sortF_act (blk cap : Nat) (ss L : List Ac) (w : World) (hH : HoldsK acC 2 w blk 0 ss.toArray) (hblk : blk < w.heap.size) (hsz : ss.length < 4611686018427387904) (hs : L.Pairwise fun x y => aLt x y = true) (hp : ss.Perm L) :
    Calls Try.prog 127 #[.slice (some ⟨blk, 0, none⟩) ss.length cap, .func (.func 115) #[] #[]] w fun e w' => e = .returned (.tuple #[]) ∧ ∃ n os, w' = sortWorldK acC 2 w blk 0 n L.toArray os := by
  have eg : ∀ args w, (callFunc 115 args).run Try.prog w = .ok (.enter 115 args) w := enters_of Try.func115 (by kernel_rfl) rfl
  have h := AnyQ.slices_SortFunc_total sortActor 2 Try.isAgg25 Try.sizeOf25 acC (fun _ => rfl) (fun x v hv => by simp [acC] at hv; rcases hv with rfl | rfl <;> rfl) cfact swo_act 115 #[] blk 0 cap ss.toArray w eg (cmpLays_act blk 0 _ w) hH hblk (by simpa using hsz)
    (fun x y h k => by rw [ltOf_act] at *; exact aLt_tri h k)
  have e : (ss.toArray.toList.mergeSort fun x y => !(ltOf cfact) y x) = L := by
    have e1 : (fun x y => !(ltOf cfact) y x) = fun x y => !aLt y x := by funext x y; rw [ltOf_act]
    rw [e1]
    exact pw_sort aLt_irrefl (fun _ _ _ => aLt_trans) (fun _ _ => aLt_tri) hs hp
  rw [e] at h
  change Calls Try.prog 127 _ _ _ at h
  simpa using h
theorem sortN_act (p : Option Addr) (cap : Nat) (fv : Value) (w : World) : Calls Try.prog 127 #[.slice p 0 cap, fv] w fun e w' => e = .returned (.tuple #[]) ∧ w' = w :=
  AnyF.slices_SortFunc_none sortActor p cap fv w
/-- slices.Collect(maps.Keys(m)), the iterator made. -/
theorem collectK_act (Bm b : Nat) (M : List (Ac × Int)) (w : World) (hBm : Bm < w.heap.size) (hm : w.cell? ⟨Bm, 0, none⟩ = some (.map (some b))) (hown : MapIs Try.prog 25 3 acV acOk w b M) (hN : M.length ≤ 67108928) :
    Calls Try.prog 126 #[.func (.func 128) #[] #[.pointer (some ⟨Bm, 0, none⟩)]] w fun e w' => ∃ (v : Value) (ss : List Ac), e = .returned v ∧ ss.Perm (M.map (·.1)) ∧ w'.ownsRow w.heap.size 25 2 v ss.length (ss.flatMap acC) ∧ Below w.heap.size w w' := by
  have eg : ∀ args w, (callFunc 128 args).run Try.prog w = .ok (.enter 128 args) w := enters_of Try.func128 (by kernel_rfl) rfl
  refine (callsIn_wide (n := 9)).1 ((collect_act Fence.wide 9 trivial trivial rfl (by omega) 128 #[.pointer (some ⟨Bm, 0, none⟩)] trivial eg _ _ M.length (by simp only [maxLen]; omega) (by omega) w (keysS_act Fence.wide 7 trivial rfl (by omega) Bm b M w hBm hm hown)).mono ?_)
  rintro e w' ⟨v, ss, rfl, hS, _, hrow, hb⟩
  exact ⟨v, ss, rfl, hS, hrow, hb⟩
/-- slices.SortedFunc(maps.Keys(m), cmp): the keys in order. -/
theorem sortedK_act (Bm b : Nat) (M : List (Ac × Int)) (L : List Ac) (w : World) (hBm : Bm < w.heap.size) (hm : w.cell? ⟨Bm, 0, none⟩ = some (.map (some b))) (hown : MapIs Try.prog 25 3 acV acOk w b M) (hN : M.length ≤ 67108928)
    (hs : L.Pairwise fun x y => aLt x y = true) (hp : (M.map (·.1)).Perm L) :
    Calls Try.prog 113 #[.func (.func 128) #[] #[.pointer (some ⟨Bm, 0, none⟩)], .func (.func 115) #[] #[]] w fun e w' => ∃ A c, e = .returned (.slice A L.length c) ∧ Own w' w.heap.size 25 2 A L.length c (L.flatMap acC) ∧ Below w.heap.size w w' := by
  have C1 := Lib.hid (collectK_act Bm b M w hBm hm hown hN)
  have hlen : M.length = L.length := by have := hp.length_eq; simpa using this
  have HL := Lib.hid hlen
  have HN := Lib.hid hN
  have HP := Lib.hid hp
  clear hlen hN hp
  go_enter Try.func113, Try.ntmps113
  go_wp2_with (go_at_call 126; refine C1.out.mono ?_; rintro e W ⟨v, ss, rfl, hS, hrow, hb⟩)
  have hp2 : ss.Perm L := hS.trans HP.out
  have hl2 : ss.length = L.length := hp2.length_eq
  rcases hrow.2 with ⟨rfl, hz⟩ | ⟨gb, cap, cur, rfl, hbase, hgb, r1, r2, r3, r4⟩
  · have hss : ss = [] := List.eq_nil_of_length_eq_zero hz
    subst hss
    have hL : L = [] := List.eq_nil_of_length_eq_zero (by simpa using hl2.symm)
    subst hL
    have S1 := Lib.hid (sortN_act none 0 (.func (.func 115) #[] #[]) W)
    go_wp2_with (go_at_call 127; refine S1.out.mono ?_; rintro e w' ⟨rfl, rfl⟩)
    go_ret
    exact ⟨none, 0, rfl, Own.nil_, hb⟩
  · have hH : HoldsK acC 2 W gb 0 ss.toArray := holdsK_of_row acC 2 (fun _ => rfl) hgb r4
    have hgl : gb < W.heap.size := (Array.getElem?_eq_some_iff.1 hgb).1
    have hlen2 : ss.length < 4611686018427387904 := by have := HL.out; have := HN.out; omega
    have S1 := Lib.hid (sortF_act gb cap ss L W hH hgl hlen2 hs hp2)
    have HR := Lib.hid (fun (n : Nat) (os : Array Obj) => ownsRow_sortedK (n := n) (os := os) acC 2 (fun _ => rfl) hl2.symm hbase hgb r1 r2 r3)
    have HB := Lib.hid (fun (n : Nat) (os : Array Obj) => hb.grown (grownBy_sortedK (n := n) (os := os) acC 2 L.toArray) hb.size (fun j hj => by cases hj; exact hbase))
    have HC := Lib.hid (And.intro r1 r2)
    have HLL := Lib.hid hl2
    clear hrow hH hgb r1 r2 r3 r4 hp2 hl2 hlen2 hs
    go_wp2_with (go_at_call 127; refine S1.out.mono ?_; rintro e w' ⟨rfl, n, os, rfl⟩)
    go_ret
    have hr := HR.out n os
    have hll := HLL.out
    rw [hll] at hr ⊢
    refine ⟨some ⟨gb, 0, none⟩, cap, rfl, ⟨hr, ?_, ?_⟩, HB.out n os⟩
    · have := HC.out.1; omega
    · exact HC.out.2
end Go.Proofs.Ytailbppddnegoaa
