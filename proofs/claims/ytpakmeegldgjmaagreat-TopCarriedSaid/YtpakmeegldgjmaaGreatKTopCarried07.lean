/- TopCarried: part 7 of what the proof rests on: contracts of functions, and plain laws. -/
import Derived.WalkKit
import Derived.ProofKit
import Derived.OpenShut
import Derived.Handy
import Derived.Outline
import Derived.Lib.Hide
import Derived.Deep.Draws
import Derived.Laws.OwnMore
import Derived.Laws.AppendOwn
import Derived.Laws.AppendOwnNone
import Derived.Laws.BitsAllLaws
import Derived.Laws.Bits64b
import Derived.Lib.AppendZeros
import Derived.Lib.AppendZerosOnto
import Derived.Laws.CopyRow
import Derived.Lib.AppendStr
import Derived.Test.YtpakmeegldgjmaaGreatRows
import Derived.Lib.Zigzag
import Derived.Deep.QuietTactic
import Derived.BigQuiet
import Derived.Deep.LoopGhost
import Derived.BigRegion
import Derived.RegionTactic
import Derived.Deep.WholeRow
import Derived.Deep.Slices
import Derived.Lib.Varint
import Derived.WalkSpells
import Derived.Laws.BytesString
import Derived.Laws.Concat
import Derived.IntWalk
import Derived.Test.YtpakmeegldgjmaaGreatProg
import Derived.Deep.RegionHeld3
import Derived.StillTailTactics
import Derived.Laws.StructEq
import Derived.Lib.SmallJoins
import Derived.Deep.Strs
import Derived.Laws.IdiomStrings
import Derived.Lib.SlBytesConst
import Derived.Deep.RegionWith
import Derived.Maps.Own
import Derived.Maps.OwnSet
import Derived.Maps.Range
import Derived.DeepKeys4
import Derived.ChangeKeysEq
import Derived.DeepKeys2
import Derived.RangeFuncNested
import Derived.RangeFuncBound
import Derived.RangeFuncCalls
import Derived.RangeFuncLeaves
import Derived.Sort.MapsRangeIn
import Derived.OwnWalkIn
import Derived.TacticsInMore
import Derived.RegionIn
import Derived.LoopNIn
import Derived.LoopIn
import Derived.Maps.AppendAt
import Derived.Sort.Grow
import Derived.Shelf.GgSortFunc.InsertionK
import Derived.Shelf.SlSortCmp.NoneTotal
import Derived.WideKeyEntry
import Derived.Deep.CutBlock
import Derived.Deep.CutRange
import Derived.Deep.RegionLaw
import Derived.Deep.DeepCutAuto
import Derived.Deep.DrawnRows
import Derived.WalkLawsBesides
import Derived.Deep.MidRow
import Derived.Laws.Strings2
import Derived.Maps.RangeWalk
import Derived.Lib.Bytealg
import Derived.Test.YtpakmeegldgjmaaGreatKTopCarried06
/- slices.SortFunc at keys (the shelf's contract, laid in plain words by a program of mine), by match.Less. -/
namespace Go.Proofs.YtpakmeegldgjmaaGreat
open Go.RowKit Go.Sort Go.Shelf
set_option linter.unusedVariables false
set_option linter.unusedSimpArgs false
set_option maxRecDepth 100000
attribute [local go_sem ↓] Go.wp_at_zero Go.wp_at_succ

def sortKey_ren : Go.Shelf.Ren := ⟨fun | 6 => 54 | 15 => 94 | 14 => 93 | 28 => 126 | 29 => 127 | 20 => 118 | 21 => 119 | 22 => 120 | 23 => 121 | 24 => 122 | 25 => 123 | 26 => 124 | 27 => 125 | 46 => 147 | 47 => 148 | 48 => 149 | 49 => 150 | 50 => 151 | 57 => 168 | n => n, fun | 22 => 104 | 24 => 54 | 25 => 107 | 3 => 3 | 39 => 128 | 0 => 0 | 53 => 77 | 55 => 67 | 4 => 4 | 46 => 179 | 45 => 178 | 50 => 150 | 5 => 5 | 9 => 9 | 66 => 198 | 70 => 202 | 76 => 211 | 77 => 212 | n => n, fun | n => n⟩
theorem sortKey : Go.Proofs.SlLaysF0.n6 Tryz.prog sortKey_ren := {
  mixed := by kernel_rfl
  f6 := ⟨Tryz.f54.name, by decide, Tryz.func54.trans (congrArg some (by kernel_rfl))⟩
  f14 := ⟨Tryz.f93.name, by decide, Tryz.func93.trans (congrArg some (by kernel_rfl))⟩
  f15 := Tryz.func94.trans (congrArg some (by kernel_rfl))
  f20 := ⟨Tryz.f118.name, by decide, Tryz.func118.trans (congrArg some (by kernel_rfl))⟩
  f21 := ⟨Tryz.f119.name, by decide, Tryz.func119.trans (congrArg some (by kernel_rfl))⟩
  f22 := ⟨Tryz.f120.name, by decide, Tryz.func120.trans (congrArg some (by kernel_rfl))⟩
  f23 := ⟨Tryz.f121.name, by decide, Tryz.func121.trans (congrArg some (by kernel_rfl))⟩
  f24 := ⟨Tryz.f122.name, by decide, Tryz.func122.trans (congrArg some (by kernel_rfl))⟩
  f25 := ⟨Tryz.f123.name, by decide, Tryz.func123.trans (congrArg some (by kernel_rfl))⟩
  f26 := ⟨Tryz.f124.name, by decide, Tryz.func124.trans (congrArg some (by kernel_rfl))⟩
  f27 := ⟨Tryz.f125.name, by decide, Tryz.func125.trans (congrArg some (by kernel_rfl))⟩
  f28 := Tryz.func126.trans (congrArg some (by kernel_rfl))
  f29 := Tryz.func127.trans (congrArg some (by kernel_rfl))
  f46 := ⟨Tryz.f147.name, by decide, Tryz.func147.trans (congrArg some (by kernel_rfl))⟩
  f47 := Tryz.func148.trans (congrArg some (by kernel_rfl))
  f48 := Tryz.func149.trans (congrArg some (by kernel_rfl))
  f49 := ⟨Tryz.f150.name, by decide, Tryz.func150.trans (congrArg some (by kernel_rfl))⟩
  f50 := ⟨Tryz.f151.name, by decide, Tryz.func151.trans (congrArg some (by kernel_rfl))⟩
  f57 := ⟨Tryz.f168.name, by decide, Tryz.func168.trans (congrArg some (by kernel_rfl))⟩
  t0 := Tryz.underlying0
  a0 := Tryz.isAgg0
  z0 := Tryz.sizeOf0
  v0 := Tryz.zeroValue0
  t3 := Tryz.underlying3
  a3 := Tryz.isAgg3
  z3 := Tryz.sizeOf3
  v3 := Tryz.zeroValue3
  t4 := Tryz.underlying4
  a4 := Tryz.isAgg4
  z4 := Tryz.sizeOf4
  v4 := Tryz.zeroValue4
  t5 := Tryz.underlying5
  a5 := Tryz.isAgg5
  z5 := Tryz.sizeOf5
  v5 := Tryz.zeroValue5
  t9 := Tryz.underlying9
  a9 := Tryz.isAgg9
  z9 := Tryz.sizeOf9
  v9 := Tryz.zeroValue9
  t22 := Tryz.underlying104
  a22 := Tryz.isAgg104
  z22 := Tryz.sizeOf104
  v22 := Tryz.zeroValue104
  t25 := Tryz.underlying107
  a25 := Tryz.isAgg107
  z25 := Tryz.sizeOf107
  v25 := Tryz.zeroValue107
  t39 := Tryz.underlying128
  a39 := Tryz.isAgg128
  z39 := Tryz.sizeOf128
  v39 := Tryz.zeroValue128
  t45 := Tryz.underlying178
  a45 := Tryz.isAgg178
  z45 := Tryz.sizeOf178
  v45 := Tryz.zeroValue178
  t46 := Tryz.underlying179
  a46 := Tryz.isAgg179
  z46 := Tryz.sizeOf179
  v46 := Tryz.zeroValue179
  t50 := Tryz.underlying150
  a50 := Tryz.isAgg150
  z50 := Tryz.sizeOf150
  v50 := Tryz.zeroValue150
  t53 := Tryz.underlying77
  a53 := Tryz.isAgg77
  z53 := Tryz.sizeOf77
  v53 := Tryz.zeroValue77
  t55 := Tryz.underlying67
  a55 := Tryz.isAgg67
  z55 := Tryz.sizeOf67
  v55 := Tryz.zeroValue67
  t66 := Tryz.underlying198
  a66 := Tryz.isAgg198
  z66 := Tryz.sizeOf198
  v66 := Tryz.zeroValue198
  t70 := Tryz.underlying202
  a70 := Tryz.isAgg202
  z70 := Tryz.sizeOf202
  v70 := Tryz.zeroValue202
  t76 := Tryz.underlying211
  a76 := Tryz.isAgg211
  z76 := Tryz.sizeOf211
  v76 := Tryz.zeroValue211
  t77 := Tryz.underlying212
  a77 := Tryz.isAgg212
  z77 := Tryz.sizeOf212
  v77 := Tryz.zeroValue212 }



def cfkey (x y : Ky) : Int := if kLt x y = true then -1 else 1
theorem ltOf_key (x y : Ky) : ltOf cfkey x y = kLt x y := by
  unfold ltOf cfkey
  cases kLt x y <;> simp
theorem swo_key : SWO (ltOf cfkey) where
  irrefl x := by rw [ltOf_key]; exact kLt_irrefl x
  trans x y z h k := by rw [ltOf_key] at *; exact kLt_trans h k
  ntrans x y z h k := by
    rw [ltOf_key] at *
    cases hxz : kLt x z with
    | false => rfl
    | true =>
      cases hyx : kLt y x with
      | true => have := kLt_trans hyx hxz; rw [k] at this; cases this
      | false => have := kLt_tri h hyx; subst this; rw [k] at hxz; cases hxz
theorem clos_key (x y : Ky) (W : World) : Calls Tryz.prog 55 #[.agg (kyC x).toArray, .agg (kyC y).toArray] W fun e w' => e = .returned (.int .i64 (cfkey x y)) ∧ UpN W.heap.size W w' := by
  have C1 := Lib.hid (fun w => mless_up x y w)
  unfold cfkey
  generalize kLt x y = z at *
  unfold kyV at C1
  have hU := Lib.hid (up_boxes W 54 #[.string (bs x.1), .string (bs x.2.1), .string (bs x.2.2)] #[.string (bs y.1), .string (bs y.2.1), .string (bs y.2.2)])
  change Calls _ _ #[.agg #[.string (bs x.1), .string (bs x.2.1), .string (bs x.2.2)], .agg #[.string (bs y.1), .string (bs y.2.1), .string (bs y.2.2)]] _ _
  cases z
  all_goals
    go_enter Tryz.func55, Tryz.ntmps55
    go_wp2_with fail
    refine (C1.out _).mono ?_; rintro e w1 ⟨rfl, b1⟩
    go_wp2
    go_ret
    exact ⟨rfl, hU.out.trans (b1.le (by simp; omega))⟩
theorem cmpLays_key (blk off size : Nat) (w : World) : CmpLays Tryz.prog 55 #[] kyC 3 cfkey blk off size w :=
  fun _ _ _ _ x y => (clos_key x y _).mono fun _ _ ⟨he, hu⟩ => ⟨he, hu.grow⟩
theorem sortF_key (blk cap : Nat) (ss L : List Ky) (w : World) (hH : HoldsK kyC 3 w blk 0 ss.toArray) (hblk : blk < w.heap.size) (hsz : ss.length < 4611686018427387904) (hs : L.Pairwise fun x y => kLt x y = true) (hp : ss.Perm L) :
    Calls Tryz.prog 54 #[.slice (some ⟨blk, 0, none⟩) ss.length cap, .func (.func 55) #[] #[]] w fun e w' => e = .returned (.tuple #[]) ∧ ∃ n os, w' = sortWorldK kyC 3 w blk 0 n L.toArray os := by
  have eg : ∀ args w, (callFunc 55 args).run Tryz.prog w = .ok (.enter 55 args) w := enters_of Tryz.func55 (by kernel_rfl) rfl
  have h := AnyQ.slices_SortFunc_total sortKey 3 Tryz.isAgg54 Tryz.sizeOf54 kyC (fun _ => rfl) (fun x v hv => by simp [kyC] at hv; rcases hv with rfl | rfl | rfl <;> rfl) cfkey swo_key 55 #[] blk 0 cap ss.toArray w eg (cmpLays_key blk 0 _ w) hH hblk (by simpa using hsz)
    (fun x y h k => by rw [ltOf_key] at *; exact kLt_tri h k)
  have e : (ss.toArray.toList.mergeSort fun x y => !(ltOf cfkey) y x) = L := by
    have e1 : (fun x y => !(ltOf cfkey) y x) = fun x y => !kLt y x := by funext x y; rw [ltOf_key]
    rw [e1]
    exact pw_sort kLt_irrefl (fun _ _ _ => kLt_trans) (fun _ _ => kLt_tri) hs hp
  rw [e] at h
  change Calls Tryz.prog 54 _ _ _ at h
  simpa using h
theorem sortN_key (p : Option Addr) (cap : Nat) (fv : Value) (w : World) : Calls Tryz.prog 54 #[.slice p 0 cap, fv] w fun e w' => e = .returned (.tuple #[]) ∧ w' = w :=
  AnyF.slices_SortFunc_none sortKey p cap fv w
def kys (L : List Ky) : List Value := L.flatMap kyC
/-- slices.SortFunc at an own slice of keys. -/
theorem sortO_key (A : Option Addr) (c : Nat) (ss L : List Ky) (w : World) (N0 : Nat) (h : Own w N0 54 3 A ss.length c (kys ss)) (hN : N0 ≤ w.heap.size) (hn : ss.length ≤ 1000000) (hs : L.Pairwise fun x y => kLt x y = true) (hp : ss.Perm L) :
    Calls Tryz.prog 54 #[.slice A ss.length c, .func (.func 55) #[] #[]] w fun e w' => e = .returned (.tuple #[]) ∧ Own w' N0 54 3 A L.length c (kys L) ∧ Below N0 w w' := by
  have hl : ss.length = L.length := hp.length_eq
  rcases h.1.2 with ⟨hv, hz⟩ | ⟨gb, cap, cur, hv, hbase, hgb, r1, r2, r3, r4⟩
  · injection hv with e1 e2 e3
    subst e1
    have hss : ss = [] := List.eq_nil_of_length_eq_zero hz
    subst hss
    have hL : L = [] := List.eq_nil_of_length_eq_zero (by simpa using hl.symm)
    subst hL
    refine (sortN_key none c _ w).mono ?_
    rintro e w' ⟨rfl, rfl⟩
    exact ⟨rfl, h, Below.refl _ _⟩
  · injection hv with e1 e2 e3
    subst e1
    subst e3
    have hH : HoldsK kyC 3 w gb 0 ss.toArray := holdsK_of_row kyC 3 (fun _ => rfl) hgb r4
    have hgl : gb < w.heap.size := (Array.getElem?_eq_some_iff.1 hgb).1
    refine (sortF_key gb c ss L w hH hgl (by omega) hs hp).mono ?_
    rintro e w' ⟨rfl, n, os, rfl⟩
    have hr := ownsRow_sortedK (n := n) (os := os) kyC 3 (fun _ => rfl) hl.symm hbase hgb r1 r2 r3
    rw [hl] at hr
    exact ⟨rfl, ⟨hr, by rw [← hl]; exact h.2.1, h.2.2⟩, (Below.refl N0 w).grown (grownBy_sortedK (n := n) (os := os) kyC 3 L.toArray) hN (fun j hj => by cases hj; exact hbase)⟩
end Go.Proofs.YtpakmeegldgjmaaGreat
/- Layer 21 (ormap): Winner; cuts of slices of events. -/
namespace Go.Proofs.YtpakmeegldgjmaaGreat
open Go.RowKit
set_option linter.unusedVariables false
set_option linter.unusedSimpArgs false
set_option maxRecDepth 100000
attribute [local go_sem ↓] Go.wp_at_zero Go.wp_at_succ

/-- The address of 's[k:]', the elements of z cells. -/
def cutZ (z : Nat) (A : Option Addr) (c k : Nat) : Option Addr := if c = k then A else A.map (·.add (k * z))
theorem Rd.cutZ_ {w : World} {B n k c z : Nat} {A : Option Addr} {xs : List Value} (h : Rd w B z A n xs) (hk : k ≤ n) (hc : n ≤ c) : Rd w B z (cutZ z A c k) (n - k) (xs.drop (k * z)) := by
  refine ⟨by rw [List.length_drop, h.1, Nat.sub_mul], fun hn => ?_⟩
  have hnk : k < n := by
    rcases Nat.lt_or_ge k n with h | h
    · exact h
    · rw [Nat.sub_eq_zero_of_le h] at hn; simp at hn
  have hz : 0 < z := Nat.pos_of_ne_zero (fun e => by subst e; simp at hn)
  obtain ⟨b, o, rfl, hb, hcell⟩ := h.2 (Nat.mul_pos (by omega) hz)
  unfold cutZ
  rw [if_neg (by omega)]
  refine ⟨b, o + k * z, by simp [Addr.add], hb, fun j u hu => ?_⟩
  rw [Nat.add_assoc]
  exact hcell _ u (by rw [← hu, List.getElem?_drop])
theorem Rd.frontZ {w : World} {B n k z : Nat} {A : Option Addr} {xs : List Value} (h : Rd w B z A n xs) (hk : k ≤ n) : Rd w B z A k (xs.take (k * z)) := by
  have hle : k * z ≤ n * z := Nat.mul_le_mul_right z hk
  refine ⟨by rw [List.length_take, h.1]; omega, fun hn => ?_⟩
  obtain ⟨b, o, rfl, hb, hcell⟩ := h.2 (by omega)
  refine ⟨b, o, rfl, hb, fun j u hu => hcell j u ?_⟩
  rw [List.getElem?_take] at hu
  split at hu
  · exact hu
  · cases hu
theorem flatMap_take {α : Type} {C : α → List Value} {z : Nat} (hC : ∀ x, (C x).length = z) (L : List α) (k : Nat) : (L.flatMap C).take (k * z) = (L.take k).flatMap C := by
  induction L generalizing k with
  | nil => simp
  | cons x r ih =>
    cases k with
    | zero => simp
    | succ k => rw [List.flatMap_cons, List.take_succ_cons, List.flatMap_cons, Nat.succ_mul, Nat.add_comm, List.take_append, List.take_of_length_le (by rw [hC]; omega), hC, Nat.add_sub_cancel_left, ih]
theorem flatMap_drop {α : Type} {C : α → List Value} {z : Nat} (hC : ∀ x, (C x).length = z) (L : List α) (k : Nat) : (L.flatMap C).drop (k * z) = (L.drop k).flatMap C := by
  induction L generalizing k with
  | nil => simp
  | cons x r ih =>
    cases k with
    | zero => simp
    | succ k => rw [List.flatMap_cons, List.drop_succ_cons, Nat.succ_mul, Nat.add_comm, List.drop_append, List.drop_of_length_le (by rw [hC]; omega), hC, Nat.add_sub_cancel_left, ih, List.nil_append]
theorem EsAt.back {w : World} {B k c : Nat} {A : Option Addr} {Es : List El} (h : EsAt w B A Es) (hk : k ≤ Es.length) (hc : Es.length ≤ c) : EsAt w B (cutZ 19 A c k) (Es.drop k) := by
  refine ⟨?_, fun y hy => h.ov y (List.drop_subset _ _ hy)⟩
  have := h.rd.cutZ_ hk hc
  rw [flatMap_drop elC_len] at this
  rw [List.length_drop]
  exact this
theorem EsAt.front {w : World} {B k : Nat} {A : Option Addr} {Es : List El} (h : EsAt w B A Es) (hk : k ≤ Es.length) : EsAt w B A (Es.take k) := by
  refine ⟨?_, fun y hy => h.ov y (List.take_subset _ _ hy)⟩
  have := h.rd.frontZ hk
  rw [flatMap_take elC_len] at this
  rw [List.length_take, Nat.min_eq_left hk]
  exact this
section
variable {P : Program} (z : Nat) (t : TypeId) (ht : P.underlying t = some (.slice (P.elem t))) (hs : ∀ w, (sizeOf (P.elem t)).run P w = .ok z w)
include ht hs
theorem run_fromZ (A : Option Addr) (n c k : Nat) (hk : k ≤ n) (w : World) :
    (Instr.slice t (.slice A n c) (some (.int .i64 k)) none none).run P w = .ok (.slice (cutZ z A c k) (n - k) (c - k)) w := by
  rw [run_slice_l w t A n c ht .i64 k (by omega) (by omega), hs]
  simp [sliced, cutZ, Result.andThen]
theorem run_midZ (A : Option Addr) (n c l h : Nat) (h1 : l ≤ h) (h2 : h ≤ c) (w : World) :
    (Instr.slice t (.slice A n c) (some (.int .i64 l)) (some (.int .i64 h)) none).run P w = .ok (.slice (cutZ z A c l) (h - l) (c - l)) w := by
  rw [run_slice_lh w t A n c ht .i64 .i64 l h (by omega) (by omega) (by omega), hs]
  simp [sliced, cutZ, Result.andThen]
end
/-- The last of the greatest stamp. -/
def wn : Ed → List Ed → Ed
  | b, [] => b
  | b, e :: r => wn (if stL e.st.1 e.st.2.1 e.st.2.2 b.st.1 b.st.2.1 b.st.2.2 = true then b else e) r
def winE : List Ed → Ed
  | [] => e00.e
  | e :: r => wn e r
theorem wn_snoc (b : Ed) (l : List Ed) (e : Ed) : wn b (l ++ [e]) = if stL e.st.1 e.st.2.1 e.st.2.2 (wn b l).st.1 (wn b l).st.2.1 (wn b l).st.2.2 = true then wn b l else e := by
  induction l generalizing b with
  | nil => rfl
  | cons x r ih => exact ih _
/-- The dots of a key. -/
def alAt (AL : List (Ky × Nat × List Dt)) (k : Ky) : List Dt := AL.flatMap fun p => if p.1 = k then p.2.2 else []
/-- One event, and that it is there. -/
def OneE (w : World) (e0 : Ed) (e : Ending) (w' : World) : Prop := ∃ x : El, e = .returned (.tuple #[.agg (evA x.e x.A x.c), .bool true]) ∧ x.e = e0 ∧ (∃ N0, Own w' N0 50 3 x.A x.e.over.length x.c (dts x.e.over)) ∧ Below w.heap.size w w'
/-- What Winner knows while it goes on. -/
structure WnS (w : World) (B : Nat) (W : World) (x : El) : Prop where
  be : Below w.heap.size w W
  le : w.heap.size ≤ B
  bx : Whole W B 59 (evA x.e x.A x.c)
theorem WnS.up {w W W' : World} {B : Nat} {x : El} (h : WnS w B W x) (b : Below W.heap.size W W') : WnS w B W' x := ⟨h.be.trans (below_of_le b h.be.size), h.le, h.bx.below b h.bx.lt⟩
theorem st_cells {w : World} {B : Nat} {x : El} (h : Whole w B 59 (evA x.e x.A x.c)) : w.cell? ⟨B, 3, none⟩ = some (.int .i64 x.e.st.1) ∧ w.cell? ⟨B, 4, none⟩ = some (.int .i64 x.e.st.2.1) ∧ w.cell? ⟨B, 5, none⟩ = some (.int .i64 x.e.st.2.2) := by
  refine ⟨?_, ?_, ?_⟩
  all_goals (rw [h.cell]; rfl)
set_option maxHeartbeats 4000000 in
theorem ormwinner_any (w : World) (N m kb ab db sv sb : Nat) (K : List El) (AL : List (Ky × Nat × List Dt)) (D M : List Dt) (h : Om w N m kb ab db sv sb K AL D M) (hs : OmSt K AL D M) (p : Ky × Nat × List Dt) (hp : p ∈ AL) (hK : p.2.2.length ≤ 1000) :
    Calls Tryz.prog 57 #[.pointer (some ⟨m, 0, none⟩), kyV p.1] w (OneE w (winE ((dsort p.2.2).map (kEd K)))) := by
  have B1 := ((Below.refl w.heap.size w).alloc (Nat.le_refl _) (.cells #[.string (bs p.1.1), .string (bs p.1.2.1), .string (bs p.1.2.2)] 54)).alloc (by simp) (.cells zeroE' 59)
  have hW := (Whole.new w 54 #[.string (bs p.1.1), .string (bs p.1.2.1), .string (bs p.1.2.2)]).alloc (.cells zeroE' 59)
  have hR := Whole.new (w.alloc (.cells #[.string (bs p.1.1), .string (bs p.1.2.1), .string (bs p.1.2.2)] 54)) 59 zeroE'
  rw [show (w.alloc (.cells #[.string (bs p.1.1), .string (bs p.1.2.1), .string (bs p.1.2.2)] 54)).heap.size = w.heap.size + 1 by simp] at hR
  have CK := Lib.hid (ormkey_any _ N m kb ab db sv sb K AL D M (h.up B1) hs p hp hK)
  have HNE := Lib.hid (hs.ne p hp)
  have hLs := Nat.le_trans (dsort_len p.2.2) hK
  have HB := Lib.hid B1
  have HW := Lib.hid hW
  have HR := Lib.hid hR
  have hsz : ((w.alloc (.cells #[.string (bs p.1.1), .string (bs p.1.2.1), .string (bs p.1.2.2)] 54)).alloc (.cells zeroE' 59)).heap.size = w.heap.size + 2 := by simp
  unfold zeroE' at HW HR CK HB hsz
  clear h hs B1 hW hR
  unfold kyV
  go_enter Tryz.func57, Tryz.ntmps57
  go_wp2_with (refine ld_whole (by rfl) _ rfl rfl HW.out Tryz.underlying54 rfl (by kernel_rfl) ?_)
  refine CK.out.mono ?_; rintro r w1 ⟨A1, c1, Es, rfl, ho1, he1, b1⟩
  have HB1 := Lib.hid (HB.out.trans (below_of_le b1 HB.out.size))
  have HR1 := Lib.hid (HR.out.below b1 (by omega))
  have HE1 := Lib.hid he1
  have hne : Es ≠ [] := by
    intro e
    subst e
    obtain ⟨d, hd⟩ := List.exists_mem_of_ne_nil _ HNE.out
    have := (mem_dsort p.2.2 d).2 hd
    have h0 : dsort p.2.2 = [] := List.map_eq_nil_iff.1 he1.symm
    rw [h0] at this
    cases this
  have hlen : Es.length ≤ 1000 := by
    have := congrArg List.length he1
    simp [eds] at this
    omega
  obtain ⟨y, Fs, rfl⟩ : ∃ y Fs, Es = y :: Fs := by
    cases Es with
    | nil => exact absurd rfl hne
    | cons y Fs => exact ⟨y, Fs, rfl⟩
  clear he1 hne HNE CK hLs b1 HW HB HR
  have HO := Lib.hid ho1
  obtain ⟨b0, o0, hA0, hbN, hrg0, hds0⟩ := ho1.at_.at_ (i := 0) (x := y) rfl
  subst hA0
  have hs19 : ∀ w, (sizeOf (Tryz.prog.elem 28)).run Tryz.prog w = .ok 19 w := fun w => Tryz.sizeOf59 w
  have hfrom : ∀ w, (Instr.slice 28 (.slice (some ⟨b0, o0, none⟩) (y :: Fs).length c1) (some (.int .i64 1)) none none).run Tryz.prog w = .ok (.slice (cutZ 19 (some ⟨b0, o0, none⟩) c1 1) ((y :: Fs).length - 1) (c1 - 1)) w := fun w => run_fromZ (P := Tryz.prog) 19 28 (by kernel_rfl) hs19 (some ⟨b0, o0, none⟩) (y :: Fs).length c1 1 (by simp) w
  have hF := ho1.at_.back (k := 1) (by simp) ho1.len
  rw [show (y :: Fs).drop 1 = Fs from rfl] at hF
  rw [show (y :: Fs).length - 1 = Fs.length by simp] at hfrom
  have t0 : (((y :: Fs).length : Int) == 0) = false := by simp; omega
  have hl1 : (y :: Fs).length = Fs.length + 1 := by simp
  have hFl : Fs.length ≤ 1000 := by simp at hlen; omega
  rw [hl1] at hfrom t0 ⊢
  generalize hn : Fs.length = n at *
  have HNn := Lib.hid hn
  have HF := Lib.hid hF
  have HRG := Lib.hid hrg0
  have hZ := Whole.new w1 59 zeroE'
  have HZ := Lib.hid hZ
  unfold zeroE' at HZ
  clear hn hF ho1 hrg0 hds0 hlen hl1 hZ
  generalize cutZ 19 (some ⟨b0, o0, none⟩) c1 1 = A2 at *
  go_wp2_with (first | (refine ld_range (by rfl) _ rfl rfl HRG.out Tryz.underlying59 rfl (by kernel_rfl) ?_) | (refine st_whole (by rfl) _ _ rfl rfl rfl HZ.out (by rfl) (by kernel_rfl) (by rfl) ?_; intro W1 hX1 hC1 hz1; have H1 := Lib.hid (And.intro hX1 (And.intro hC1 hz1)); clear hX1 hC1 hz1))
  have B2 := Lib.hid (((Below.refl w1.heap.size w1).alloc (Nat.le_refl _) (.cells zeroE' 59)).trans (H1.out.2.1.below (fun k hk e => by omega) (by simp)))
  have HW0 := Lib.hid (show WnS w w1.heap.size W1 y from ⟨HB1.out.trans (below_of_le B2.out HB1.out.size), HB1.out.size, H1.out.1⟩)
  have hE1 : w.heap.size + 1 < w1.heap.size := HR1.out.lt
  clear HZ H1 HRG t0 hfrom
  go_loopw [23] (fun i wr => ∃ (j : Nat) (x : El), j ≤ n ∧ i = .int .i64 j ∧ x ∈ y :: Fs ∧ x.e = wn y.e ((eds Fs).take j) ∧ WnS w w1.heap.size wr x ∧ Below w1.heap.size w1 wr) (fun i _ => n - (intOf i).toNat)
  case atStart => exact ⟨0, y, by omega, rfl, List.mem_cons_self .., rfl, HW0.out, B2.out⟩
  case round =>
    obtain ⟨j, x, hj, rfl, hxm, hxe, hS, hbw⟩ := hrel
    have HS := Lib.hid (And.intro hS hbw)
    have HX := Lib.hid (And.intro hxm hxe)
    have hlo := hS.le
    have hlt1 := hS.bx.lt
    clear hS hbw hxm hxe
    by_cases hlt : j < n
    · obtain ⟨z, hz⟩ : ∃ z, Fs[j]? = some z := ⟨Fs[j]'(by have := HNn.out; omega), List.getElem?_eq_getElem _⟩
      obtain ⟨b2, o2, hA2, hbN2, hrg2, hds2⟩ := (HF.out.below HS.out.2).at_ hz
      subst hA2
      have HRG := Lib.hid hrg2
      have HZ := Lib.hid hz
      have hZ2 := Whole.new wr 59 zeroE'
      have HZ2 := Lib.hid hZ2
      unfold zeroE' at HZ2
      clear hz hrg2 hds2 hZ2
      go_wp2_with (first | (refine ld_range (by rfl) _ rfl rfl HRG.out Tryz.underlying59 rfl (by kernel_rfl) ?_) | (refine st_whole (by rfl) _ _ rfl rfl rfl HZ2.out (by rfl) (by kernel_rfl) (by rfl) ?_; intro W2 hX1 hC1 hz1; have H2 := Lib.hid (And.intro hX1 (And.intro hC1 hz1)); obtain ⟨s0, s1, s2⟩ := st_cells hX1; obtain ⟨s3, s4, s5⟩ := st_cells ((HS.out.1.bx.alloc _).ch hC1 (fun e => by omega)); clear hX1 hC1 hz1))
      clear s0 s1 s2 s3 s4 s5
      have hZl : wr.heap.size < W2.heap.size := H2.out.1.lt
      have B2 := Lib.hid (((Below.refl wr.heap.size wr).alloc (Nat.le_refl _) (.cells zeroE' 59)).trans (H2.out.2.1.below (fun k hk e => by omega) (by simp)))
      have HS2 := Lib.hid (HS.out.1.up B2.out)
      have HB2 := Lib.hid (HS.out.2.trans (below_of_le B2.out HS.out.2.size))
      have HN := Lib.hid (show wn y.e ((eds Fs).take (j + 1)) = if stL z.e.st.1 z.e.st.2.1 z.e.st.2.2 x.e.st.1 x.e.st.2.1 x.e.st.2.2 = true then x.e else z.e by
        rw [List.take_add_one, eds_get HZ.out]
        simp only [Option.toList_some]
        rw [wn_snoc, ← HX.out.2])
      have HW2 := Lib.hid H2.out.1
      clear H2 HRG HS HZ2 B2
      have CL0 := fun w => cless_any z.e.st.1 z.e.st.2.1 z.e.st.2.2 x.e.st.1 x.e.st.2.1 x.e.st.2.2 w
      unfold stV at CL0
      cases hst : stL z.e.st.1 z.e.st.2.1 z.e.st.2.2 x.e.st.1 x.e.st.2.1 x.e.st.2.2 with
      | true =>
        rw [hst] at CL0 HN
        have CL := Lib.hid CL0
        have HN := Lib.hid (HN.out.trans (if_pos rfl))
        clear CL0 hst
        refine (CL.out _).mono ?_; rintro r w5 ⟨rfl, b5⟩
        have HS5 := Lib.hid (HS2.out.up b5)
        have HB5 := Lib.hid (HB2.out.trans (below_of_le b5 HB2.out.size))
        clear b5
        go_wp2
        go_roundw
        case rel => exact ⟨j + 1, x, by omega, by go_num, HX.out.1, HN.out.symm, HS5.out, HB5.out⟩
        case measure => simp [intOf]; omega
      | false =>
        rw [hst] at CL0 HN
        have CL := Lib.hid CL0
        have HN := Lib.hid (HN.out.trans (if_neg (by decide)))
        clear CL0 hst
        refine (CL.out _).mono ?_; rintro r w5 ⟨rfl, b5⟩
        have HS5 := Lib.hid (HS2.out.up b5)
        have HB5 := Lib.hid (HB2.out.trans (below_of_le b5 HB2.out.size))
        have HW5 := Lib.hid (HW2.out.below b5 hZl)
        clear b5
        go_wp2_with (first | (refine ld_whole (by rfl) _ rfl rfl HW5.out Tryz.underlying59 rfl (by kernel_rfl) ?_) | (refine st_whole (by rfl) _ _ rfl rfl rfl HS5.out.bx (by rfl) (by kernel_rfl) (by rfl) ?_; intro W6 hX1 hC1 hz1; have H6 := Lib.hid (And.intro hX1 (And.intro hC1 hz1)); clear hX1 hC1 hz1))
        go_roundw
        case rel => exact ⟨j + 1, z, by omega, by go_num, List.mem_cons_of_mem _ (List.mem_of_getElem? HZ.out), HN.out.symm, ⟨HS5.out.be.trans (H6.out.2.1.below (fun k hk e => by omega) HS5.out.be.size), HS5.out.le, H6.out.1⟩, HB5.out.trans (H6.out.2.1.below (fun k hk e => by omega) HB5.out.size)⟩
        case measure => simp [intOf]; omega
    · have hj' : n = j := by omega
      subst hj'
      have HV := Lib.hid (show x.e = winE (eds (y :: Fs)) by rw [HX.out.2, List.take_of_length_le (by unfold eds; rw [List.length_map]; exact Nat.le_of_eq HNn.out)]; rfl)
      have HR3 := Lib.hid (HR1.out.below HS.out.2 HR1.out.lt)
      go_wp2_with (first | (refine ld_whole (by rfl) _ rfl rfl HS.out.1.bx Tryz.underlying59 rfl (by kernel_rfl) ?_) | (refine st_whole (by rfl) _ _ rfl rfl rfl HR3.out (by rfl) (by kernel_rfl) (by rfl) ?_; intro W6 hX1 hC1 hz1; have H6 := Lib.hid (And.intro hX1 (And.intro hC1 hz1)); clear hX1 hC1 hz1))
      obtain ⟨N0, hox⟩ := HO.out.ow x HX.out.1
      have ho2 := hox.below HS.out.2 (Nat.le_refl _)
      have ho3 := ho2.ch H6.out.2.1 (fun k _ _ hk e => ho2.ne_ HR3.out (by decide) (by rw [ownBlock_bl, hk, e]))
      exact bodyPost_ret (results_cell2 rfl rfl H6.out.1.range Tryz.underlying59 rfl (by kernel_rfl)) rfl ⟨x, rfl, HV.out.trans (congrArg winE HE1.out), ⟨N0, ho3⟩, HS.out.1.be.trans (H6.out.2.1.below (fun k hk e => by omega) HS.out.1.be.size)⟩
end Go.Proofs.YtpakmeegldgjmaaGreat
/- Layer 21 (ormap): the plain law of TopCarried: a map that is given another one's events, in order, has the same. -/
namespace Go.Proofs.YtpakmeegldgjmaaGreat
open Go.RowKit
set_option linter.unusedVariables false
set_option maxRecDepth 100000

/-- The kept events, in order. -/
def sevs (K : List El) : List Ed := (dsort (K.map fun x => x.e.dot)).map (kEd K)
theorem kEd_dot {K : List El} {d : Dt} (h : d ∈ K.map fun x => x.e.dot) : (kEd K d).dot = d ∧ kEd K d ∈ eds K := by
  induction K with
  | nil => cases h
  | cons y r ih =>
    unfold kEd
    by_cases e : y.e.dot = d
    · rw [if_pos e]
      exact ⟨e, by simp [eds]⟩
    · rw [if_neg e]
      rcases List.mem_cons.1 h with h | h
      · exact absurd h.symm e
      · obtain ⟨h1, h2⟩ := ih h
        exact ⟨h1, List.mem_cons_of_mem _ h2⟩
theorem kEd_of {K : List El} (h : (K.map fun x => x.e.dot).Nodup) {e : Ed} (he : e ∈ eds K) : kEd K e.dot = e := by
  obtain ⟨x, hx, rfl⟩ := List.mem_map.1 he
  exact kEd_mem h hx
theorem sevs_dots (K : List El) : (sevs K).map (·.dot) = dsort (K.map fun x => x.e.dot) := by
  unfold sevs
  rw [List.map_map]
  have : ∀ d ∈ dsort (K.map fun x => x.e.dot), ((fun e : Ed => e.dot) ∘ kEd K) d = d := fun d hd => (kEd_dot ((mem_dsort _ _).1 hd)).1
  rw [List.map_congr_left this, List.map_id']
theorem mem_sevs {K : List El} (h : (K.map fun x => x.e.dot).Nodup) (e : Ed) : e ∈ sevs K ↔ e ∈ eds K := by
  unfold sevs
  rw [List.mem_map]
  constructor
  · rintro ⟨d, hd, rfl⟩
    exact (kEd_dot ((mem_dsort _ _).1 hd)).2
  · intro he
    refine ⟨e.dot, (mem_dsort _ _).2 ?_, kEd_of h he⟩
    obtain ⟨x, hx, rfl⟩ := List.mem_map.1 he
    exact List.mem_map.2 ⟨x, hx, rfl⟩
theorem sevs_len {K : List El} (h : (K.map fun x => x.e.dot).Nodup) : (sevs K).length = K.length := by
  unfold sevs
  rw [List.length_map]
  have : (dsort (K.map fun x => x.e.dot)).Perm (K.map fun x => x.e.dot) := (List.perm_ext_iff_of_nodup (srt_dsort _).nodup h).2 (mem_dsort _)
  rw [this.length_eq, List.length_map]
section
variable {K K' : List El} {AL AL' : List (Ky × Nat × List Dt)} {D D' M M' : List Dt}
theorem OmSt.sv (h : OmSt K AL D M) : ∀ e ∈ sevs K, evB e = true ∧ lgE e = true := fun e he => by
  obtain ⟨x, hx, rfl⟩ := List.mem_map.1 ((mem_sevs h.nd e).1 he)
  exact h.ev x hx
theorem OmSt.vc' (h : OmSt K AL D M) {d : Dt} (hr : rightD d = true) : d.2 ≤ mget M d.1 ↔ d ∈ (eds K).map (·.dot) := by
  rw [h.vc d.1 d.2 hr]
  simp only [eds, List.map_map, List.mem_map, Function.comp]
/-- An event that comes next: it is taken. -/
theorem carry_new (h : OmSt K AL D M) (h' : OmSt K' AL' D' M') {j : Nat} {e : Ed} (hj : (sevs K)[j]? = some e) (hk : eds K' = (sevs K).take j) : vhasB M' e.dot = false ∧ mget M' e.dot.1 + 1 = e.dot.2 := by
  have he : e ∈ sevs K := List.mem_of_getElem? hj
  have hr := evB_right (h.sv e he).1
  have hrb := (rightD_iff _).1 hr
  have hjl : j < (sevs K).length := (List.getElem?_eq_some_iff.1 hj).1
  have hd : (dsort (K.map fun x => x.e.dot))[j]? = some e.dot := by rw [← sevs_dots, List.getElem?_map, hj]; rfl
  have hds := srt_dsort (K.map fun x => x.e.dot)
  have hk' : (eds K').map (·.dot) = (dsort (K.map fun x => x.e.dot)).take j := by rw [hk, List.map_take, sevs_dots]
  have hnot : e.dot ∉ (eds K').map (·.dot) := by
    rw [hk']
    intro hm
    obtain ⟨i, hi⟩ := List.getElem?_of_mem hm
    rw [List.getElem?_take] at hi
    split at hi
    · rename_i hij
      obtain ⟨h1, h2⟩ := List.getElem?_eq_some_iff.1 hi
      obtain ⟨h3, h4⟩ := List.getElem?_eq_some_iff.1 hd
      have := List.pairwise_iff_getElem.1 hds i j h1 h3 hij
      rw [h2, h4, dLt_irrefl] at this
      cases this
    · cases hi
  have hlt : mget M' e.dot.1 < e.dot.2 := by
    have := mt (h'.vc' hr).1 hnot
    omega
  refine ⟨?_, ?_⟩
  · unfold vhasB
    rw [decide_eq_false (by omega), Bool.and_false]
  · have hge := h'.vw.ge0 e.dot.1
    refine Decidable.byContradiction fun hne => ?_
    have hr2 : rightD (e.dot.1, mget M' e.dot.1 + 1) = true := (rightD_iff _).2 (by simp only; omega)
    have hin : (e.dot.1, mget M' e.dot.1 + 1) ∈ (eds K).map (·.dot) := by
      rw [← h.vc' hr2]
      have h1 : e.dot ∈ (eds K).map (·.dot) := List.mem_map.2 ⟨e, (mem_sevs h.nd e).1 he, rfl⟩
      have := (h.vc' hr).2 h1
      simp only
      omega
    have hin' : (e.dot.1, mget M' e.dot.1 + 1) ∈ dsort (K.map fun x => x.e.dot) := by
      rw [mem_dsort]
      simpa [eds] using hin
    obtain ⟨i, hi⟩ := List.getElem?_of_mem hin'
    have hil : i < (dsort (K.map fun x => x.e.dot)).length := (List.getElem?_eq_some_iff.1 hi).1
    have hjl' : j < (dsort (K.map fun x => x.e.dot)).length := (List.getElem?_eq_some_iff.1 hd).1
    have hlt2 : dLt (e.dot.1, mget M' e.dot.1 + 1) e.dot = true := by
      unfold dLt
      rw [decide_eq_true_eq]
      exact .inr ⟨rfl, .inr ⟨rfl, by show mget M' e.dot.1 + 1 < e.dot.2; omega⟩⟩
    have hij : i < j := by
      refine Decidable.byContradiction fun hn => ?_
      by_cases hij : i = j
      · subst hij
        rw [hi] at hd
        injection hd with hd
        rw [hd] at hlt2
        rw [dLt_irrefl] at hlt2
        cases hlt2
      · have h2 := List.pairwise_iff_getElem.1 hds j i hjl' hil (by omega)
        rw [List.getElem?_eq_getElem hjl'] at hd
        rw [List.getElem?_eq_getElem hil] at hi
        injection hd with hd
        injection hi with hi
        rw [hd, hi] at h2
        rw [dLt_asymm h2] at hlt2
        cases hlt2
    have hin3 : (e.dot.1, mget M' e.dot.1 + 1) ∈ (eds K').map (·.dot) := by
      rw [hk']
      refine List.mem_of_getElem? (i := i) ?_
      rw [List.getElem?_take_of_lt hij]
      exact hi
    have := (h'.vc' hr2).2 hin3
    simp only at this
    omega
/-- An event that came already. -/
theorem carry_old (h : OmSt K AL D M) (h' : OmSt K' AL' D' M') {j i : Nat} {e : Ed} (hi : (sevs K)[i]? = some e) (hij : i < j) (hk : eds K' = (sevs K).take j) : vhasB M' e.dot = true := by
  have he : e ∈ sevs K := List.mem_of_getElem? hi
  have hr := evB_right (h.sv e he).1
  have hin : e.dot ∈ (eds K').map (·.dot) := by
    rw [hk]
    exact List.mem_map.2 ⟨e, List.mem_of_getElem? (i := i) (by rw [List.getElem?_take_of_lt hij]; exact hi), rfl⟩
  have := (h'.vc' hr).2 hin
  unfold vhasB
  rw [hr, decide_eq_true this]
  rfl
/-- All events went over: the maps have the same. -/
structure SameO (K K' : List El) : Prop where
  nd : (K.map fun x => x.e.dot).Nodup
  nd' : (K'.map fun x => x.e.dot).Nodup
  mem : ∀ e, e ∈ eds K ↔ e ∈ eds K'
theorem SameO.of (h : OmSt K AL D M) (h' : OmSt K' AL' D' M') (hk : eds K' = sevs K) : SameO K K' := ⟨h.nd, h'.nd, fun e => by rw [hk, mem_sevs h.nd]⟩
theorem SameO.dots (h : SameO K K') (d : Dt) : (d ∈ K.map fun x => x.e.dot) ↔ d ∈ K'.map fun x => x.e.dot := by
  have e1 : ∀ J : List El, (J.map fun x => x.e.dot) = (eds J).map (·.dot) := fun J => by simp [eds]
  rw [e1, e1, List.mem_map, List.mem_map]
  exact ⟨fun ⟨e, a, b⟩ => ⟨e, (h.mem e).1 a, b⟩, fun ⟨e, a, b⟩ => ⟨e, (h.mem e).2 a, b⟩⟩
theorem SameO.kEd (h : SameO K K') {d : Dt} (hd : d ∈ K.map fun x => x.e.dot) : Go.Proofs.YtpakmeegldgjmaaGreat.kEd K d = Go.Proofs.YtpakmeegldgjmaaGreat.kEd K' d := by
  obtain ⟨h1, h2⟩ := kEd_dot hd
  have := kEd_of h.nd' ((h.mem _).1 h2)
  rw [h1] at this
  exact this.symm
theorem SameO.sorted (h : SameO K K') {L L' : List Dt} (hL : ∀ d, d ∈ L ↔ d ∈ L') (hin : ∀ d ∈ L, d ∈ K.map fun x => x.e.dot) : (dsort L).map (Go.Proofs.YtpakmeegldgjmaaGreat.kEd K) = (dsort L').map (Go.Proofs.YtpakmeegldgjmaaGreat.kEd K') := by
  rw [dsort_congr hL]
  exact List.map_congr_left fun d hd => h.kEd (hin d ((hL d).2 ((mem_dsort _ _).1 hd)))
theorem SameO.ev (h : SameO K K') {p : Ed → Prop} : (∃ x ∈ K, p x.e) ↔ ∃ x ∈ K', p x.e := by
  constructor
  · rintro ⟨x, hx, hp⟩
    obtain ⟨y, hy, e⟩ := List.mem_map.1 ((h.mem x.e).1 (List.mem_map.2 ⟨x, hx, rfl⟩))
    exact ⟨y, hy, by rw [e]; exact hp⟩
  · rintro ⟨x, hx, hp⟩
    obtain ⟨y, hy, e⟩ := List.mem_map.1 ((h.mem x.e).2 (List.mem_map.2 ⟨x, hx, rfl⟩))
    exact ⟨y, hy, by rw [e]; exact hp⟩
theorem SameO.dead (s : SameO K K') (h : OmSt K AL D M) (h' : OmSt K' AL' D' M') (d : Dt) : d ∈ D ↔ d ∈ D' := by
  rw [h.dd, h'.dd]
  exact s.ev (p := fun e => d ∈ e.over)
theorem SameO.has (s : SameO K K') (h : OmSt K AL D M) (h' : OmSt K' AL' D' M') (ky : Ky) (d : Dt) : alHas AL ky d ↔ alHas AL' ky d := by
  rw [h.al, h'.al, s.dead h h']
  exact s.ev (p := fun e => e.kind = 1 ∧ e.dot = d ∧ kyE e = ky ∧ d ∉ D')
theorem alHas_in (h : OmSt K AL D M) {ky : Ky} {d : Dt} (hd : alHas AL ky d) : d ∈ K.map fun x => x.e.dot := by
  obtain ⟨x, hx, _, e, _⟩ := (h.al ky d).1 hd
  exact List.mem_map.2 ⟨x, hx, e⟩
theorem mem_alDots (AL : List (Ky × Nat × List Dt)) (d : Dt) : d ∈ alDots AL ↔ ∃ ky, alHas AL ky d := by
  unfold alDots alHas
  rw [List.mem_flatMap]
  exact ⟨fun ⟨p, a, b⟩ => ⟨p.1, p, a, rfl, b⟩, fun ⟨ky, p, a, _, b⟩ => ⟨p, a, b⟩⟩
theorem mem_alAt (AL : List (Ky × Nat × List Dt)) (ky : Ky) (d : Dt) : d ∈ alAt AL ky ↔ alHas AL ky d := by
  unfold alAt alHas
  rw [List.mem_flatMap]
  constructor
  · rintro ⟨p, a, b⟩
    split at b
    · rename_i e; exact ⟨p, a, e, b⟩
    · cases b
  · rintro ⟨p, a, e, b⟩
    exact ⟨p, a, by rw [if_pos e]; exact b⟩
theorem mem_alKeys (h : OmSt K AL D M) (ky : Ky) : ky ∈ AL.map (·.1) ↔ ∃ d, alHas AL ky d := by
  rw [List.mem_map]
  constructor
  · rintro ⟨p, hp, rfl⟩
    obtain ⟨d, hd⟩ := List.exists_mem_of_ne_nil _ (h.ne p hp)
    exact ⟨d, p, hp, rfl, hd⟩
  · rintro ⟨d, p, hp, e, _⟩
    exact ⟨p, hp, e⟩
theorem SameO.events (s : SameO K K') : (dsort (K'.map fun x => x.e.dot)).map (Go.Proofs.YtpakmeegldgjmaaGreat.kEd K') = sevs K :=
  (s.sorted s.dots fun d hd => hd).symm
theorem SameO.alive (s : SameO K K') (h : OmSt K AL D M) (h' : OmSt K' AL' D' M') : (dsort (alDots AL)).map (Go.Proofs.YtpakmeegldgjmaaGreat.kEd K) = (dsort (alDots AL')).map (Go.Proofs.YtpakmeegldgjmaaGreat.kEd K') :=
  s.sorted (fun d => by
    rw [mem_alDots, mem_alDots]
    exact ⟨fun ⟨ky, a⟩ => ⟨ky, (s.has h h' ky d).1 a⟩, fun ⟨ky, a⟩ => ⟨ky, (s.has h h' ky d).2 a⟩⟩) fun d hd => by
    obtain ⟨ky, a⟩ := (mem_alDots _ _).1 hd
    exact alHas_in h a
theorem SameO.wins (s : SameO K K') (h : OmSt K AL D M) (h' : OmSt K' AL' D' M') {L L' : List Ky} (hs : L.Pairwise fun x y => kLt x y = true) (hs' : L'.Pairwise fun x y => kLt x y = true) (hp : L.Perm (AL.map (·.1))) (hp' : L'.Perm (AL'.map (·.1))) :
    L.map (fun k => winE ((dsort (alAt AL k)).map (Go.Proofs.YtpakmeegldgjmaaGreat.kEd K))) = L'.map (fun k => winE ((dsort (alAt AL' k)).map (Go.Proofs.YtpakmeegldgjmaaGreat.kEd K'))) := by
  have e : L = L' := pw_ext kLt_irrefl (fun _ _ _ => kLt_trans) hs hs' fun k => by
    rw [hp.mem_iff, hp'.mem_iff, mem_alKeys h, mem_alKeys h']
    exact ⟨fun ⟨d, a⟩ => ⟨d, (s.has h h' k d).1 a⟩, fun ⟨d, a⟩ => ⟨d, (s.has h h' k d).2 a⟩⟩
  subst e
  refine List.map_congr_left fun k _ => ?_
  rw [s.sorted (L' := alAt AL' k) (fun d => by rw [mem_alAt, mem_alAt]; exact s.has h h' k d) fun d hd => alHas_in h ((mem_alAt _ _ _).1 hd)]
end
/-- Part of rising events rises. -/
theorem riseG_srt {p : Option Dt} {l : List Ed} (h : ∀ e ∈ l, evB e = true) (hs : DSrt (l.map (·.dot))) (hp : ∀ q, p = some q → ∀ e ∈ l, dLt q e.dot = true) : riseG p l = true := by
  induction l generalizing p with
  | nil => rfl
  | cons x r ih =>
    rw [List.map_cons] at hs
    have hs' := List.pairwise_cons.1 hs
    rw [riseG_cons, ih (p := some x.dot) (fun e he => h e (List.mem_cons_of_mem _ he)) hs'.2 (fun q hq e he => by injection hq with hq; subst hq; exact hs'.1 _ (List.mem_map.2 ⟨e, he, rfl⟩)), Bool.and_true]
    unfold okEd
    rw [h x (List.mem_cons_self ..), Bool.true_and]
    cases p with
    | none => rfl
    | some q => exact hp q rfl x (List.mem_cons_self ..)
/-- A message of some of a map's events may be. -/
theorem carry_msg {K : List El} {AL : List (Ky × Nat × List Dt)} {D M : List Dt} (h : OmSt K AL D M) (hK : K.length ≤ 25) (i k : Nat) : msB ⟨2, 0, 1, [], ((sevs K).drop i).take k⟩ = true := by
  have hl : (((sevs K).drop i).take k).length ≤ 256 := by
    have := sevs_len h.nd
    rw [List.length_take, List.length_drop]
    omega
  have hsub : (((sevs K).drop i).take k).Sublist (sevs K) := (List.take_sublist _ _).trans (List.drop_sublist _ _)
  have hr : riseB (((sevs K).drop i).take k) = true := by
    unfold riseB
    rw [decide_eq_true hl, Bool.and_true]
    refine riseG_srt (fun e he => (h.sv e (hsub.subset he)).1) ?_ (fun q hq => by cases hq)
    have := hsub.map (·.dot)
    rw [sevs_dots] at this
    exact (srt_dsort _).sublist this
  unfold msB
  rw [hr]
  rfl
end Go.Proofs.YtpakmeegldgjmaaGreat
/- Layer 21 (ormap): Winners. -/
namespace Go.Proofs.YtpakmeegldgjmaaGreat
open Go.RowKit Go.Maps
set_option linter.unusedVariables false
set_option linter.unusedSimpArgs false
set_option maxRecDepth 100000

theorem info_ky : (Tryz.prog.info? 54).map (fun i => (i.zero, i.size, i.bytes)) = some (some (.agg #[.string ByteArray.empty, .string ByteArray.empty, .string ByteArray.empty]), 3, 48) := by kernel_rfl
theorem app1k (w : World) (base : Nat) (A : Option Addr) (n c : Nat) (L : List Ky) (hl : L.length = n) (hown : Own w base 54 3 A n c (kys L)) (x : Ky) (hlen : n ≤ 300000000) (hbase : base ≤ w.heap.size) :
    ∃ A2 c2 w', (Builtin.append_ #[104, 104] 104 #[.slice A n c, .slice (some ⟨w.heap.size, 0, none⟩) 1 1]).run Tryz.prog (w.alloc (.cells #[.string (bs x.1), .string (bs x.2.1), .string (bs x.2.2)] 54)) = .ok (.slice A2 (n + 1) c2) w' ∧ Own w' base 54 3 A2 (n + 1) c2 (kys (L ++ [x])) ∧
      Ch (fun k => some k = bl A) w w' ∧ Below base w w' ∧ ∀ k, bl A2 = some k → bl A = some k ∨ w.heap.size ≤ k := by
  obtain ⟨i0, hi, hz0, hz1, hz2⟩ := info_parts info_ky
  have hr : Rd (w.alloc (.cells #[.string (bs x.1), .string (bs x.2.1), .string (bs x.2.2)] 54)) (w.heap.size + 1) 3 (some ⟨w.heap.size, 0, none⟩) 1 (kyC x) :=
    ⟨rfl, fun _ => ⟨_, _, rfl, by omega, fun j u hu => by rw [(Whole.new w 54 #[.string (bs x.1), .string (bs x.2.1), .string (bs x.2.2)]).cell, Nat.zero_add, ← Array.getElem?_toList]; exact hu⟩⟩
  obtain ⟨A2, c2, w', q, o, g, nr⟩ := run_append_rdn (P := Tryz.prog) (w.alloc (.cells #[.string (bs x.1), .string (bs x.2.1), .string (bs x.2.2)] 54)) 104 104 base 54 i0 (.agg #[.string ByteArray.empty, .string ByteArray.empty, .string ByteArray.empty]) 3 48 Tryz.underlying104 hi hz0 hz1 hz2 rfl (by decide) (by decide) A n c (kys L) (hown.alloc _) (w.heap.size + 1) _ 1 1 (kyC x) hr
    (fun u hu => by simp [kyC] at hu; rcases hu with rfl | rfl | rfl <;> rfl) (by omega) (by simp; omega)
  refine ⟨A2, c2, w', q, ?_, ?_, ?_, fun k hk => ?_⟩
  · have e : kys (L ++ [x]) = kys L ++ kyC x := by simp [kys]
    rw [e]; exact o
  · exact (Ch.alloc_ _ w _).trans (grown_ch g) (fun k _ h => h)
  · exact ((Below.refl base w).alloc hbase _).grown g (by simp; omega) hown.bl_lo
  · rcases nr with h | h
    · exact .inl (by rw [← h]; exact hk)
    · rw [h] at hk
      simp at hk
      exact .inr (by omega)
theorem ksort_ex (l : List Ky) (h : l.Nodup) : ∃ L : List Ky, (L.Pairwise fun x y => kLt x y = true) ∧ l.Perm L := by
  refine ⟨l.mergeSort fun x y => !kLt y x, ?_, (List.mergeSort_perm l _).symm⟩
  have h1 := List.pairwise_mergeSort (le := fun x y => !kLt y x) (fun a b c h k => by
    simp only [Bool.not_eq_true'] at *
    cases hca : kLt c a with
    | false => rfl
    | true =>
      exfalso
      cases hab : kLt a b with
      | true => have := kLt_trans hca hab; rw [k] at this; cases this
      | false => have := kLt_tri hab h; subst this; rw [k] at hca; cases hca) (fun a b => by
    cases h : kLt b a with
    | false => simp
    | true =>
      cases h2 : kLt a b with
      | false => simp
      | true => have := kLt_trans h h2; rw [kLt_irrefl] at this; cases this) l
  have h2 : (l.mergeSort fun x y => !kLt y x).Nodup := (List.mergeSort_perm l _).nodup_iff.2 h
  refine (h1.and h2).imp ?_
  rintro a b ⟨h3, h4⟩
  cases h5 : kLt a b with
  | true => rfl
  | false => exact absurd (kLt_tri h5 (by simpa using h3)) h4
def HoldU (p : Prop) : Prop := p
theorem holdU {p : Prop} (h : HoldU p) : p := h
/-- What is told while keys are gathered. -/
structure GaK (w : World) (N0 : Nat) (W : World) (A : Option Addr) (c : Nat) (L : List Ky) : Prop where
  ow : Own W N0 54 3 A L.length c (kys L)
  be : Below w.heap.size w W
  le : N0 ≤ W.heap.size
theorem GaK.up {w W W' : World} {N0 c : Nat} {A : Option Addr} {L : List Ky} (h : GaK w N0 W A c L) (b : Below W.heap.size W W') : GaK w N0 W' A c L :=
  ⟨h.ow.below b (Nat.le_refl _), h.be.trans (below_of_le b h.be.size), Nat.le_trans h.le b.size⟩
/-- Events that are gathered, each made by somebody. -/
structure SoW (w : World) (N0 : Nat) (W : World) (A : Option Addr) (c : Nat) (Es : List El) : Prop where
  ow : Own W N0 59 19 A Es.length c (Es.flatMap elC)
  ov : ∀ y ∈ Es, ∃ N1, Own W N1 50 3 y.A y.e.over.length y.c (dts y.e.over)
  be : Below N0 w W
  le : N0 ≤ W.heap.size
section
variable {w W W' : World} {N0 c c' : Nat} {A A' : Option Addr} {Es : List El} {y : El}
theorem SoW.start (w : World) : SoW w w.heap.size w none 0 [] := ⟨Own.nil_, by simp, Below.refl _ _, Nat.le_refl _⟩
theorem SoW.up (h : SoW w N0 W A c Es) (b : Below W.heap.size W W') : SoW w N0 W' A c Es :=
  ⟨h.ow.below b (Nat.le_refl _), fun y hy => by obtain ⟨N1, ho⟩ := h.ov y hy; exact ⟨N1, ho.below b (Nat.le_refl _)⟩, h.be.trans (below_of_le b h.le), Nat.le_trans h.le b.size⟩
theorem SoW.app {N1 : Nat} (h : SoW w N0 W A c Es) (hy : Own W N1 50 3 y.A y.e.over.length y.c (dts y.e.over)) (ho : Own W' N0 59 19 A' (Es.length + 1) c' (Es.flatMap elC ++ elC y)) (hc : Ch (fun k => some k = bl A) W W') : SoW w N0 W' A' c' (Es ++ [y]) := by
  refine ⟨?_, fun z hz => ?_, h.be.trans (hc.below (fun k hk e => absurd (h.ow.bl_lo k e.symm) (by omega)) h.le), Nat.le_trans h.le hc.size⟩
  · rw [List.length_append, List.flatMap_append]
    simpa using ho
  · have hz' : ∃ N1, Own W N1 50 3 z.A z.e.over.length z.c (dts z.e.over) := by
      rcases List.mem_append.1 hz with hz | hz
      · exact h.ov z hz
      · simp at hz; subst hz; exact ⟨_, hy⟩
    obtain ⟨N2, hz'⟩ := hz'
    exact ⟨N2, hz'.ch hc (fun k _ _ hk e => hz'.apart h.ow (by decide) k hk e.symm)⟩
theorem SoW.at_ (h : SoW w N0 W A c Es) : EsAt W W.heap.size A Es := ⟨h.ow.rd, fun y hy => by obtain ⟨_, ho⟩ := h.ov y hy; exact ho.ds⟩
end
theorem alAt_one {AL : List (Ky × Nat × List Dt)} (h : ((aliveV AL).map (·.1)).Nodup) {p : Ky × Nat × List Dt} (hp : p ∈ AL) (d : Dt) : d ∈ p.2.2 ↔ d ∈ alAt AL p.1 := by
  rw [mem_alAt]
  constructor
  · intro hd
    exact ⟨p, hp, rfl, hd⟩
  · rintro ⟨q, hq, e, hd⟩
    have := al_one h hq hp e
    subst this
    exact hd
/-- The winners, by rising keys. -/
def WinsE (w : World) (K : List El) (AL : List (Ky × Nat × List Dt)) (e : Ending) (w' : World) : Prop := ∃ (A : Option Addr) (c : Nat) (Es : List El) (L : List Ky), e = .returned (.slice A Es.length c) ∧ EsAt w' w'.heap.size A Es ∧ (L.Pairwise fun x y => kLt x y = true) ∧ L.Perm (AL.map (·.1)) ∧ eds Es = L.map (fun k => winE ((dsort (alAt AL k)).map (kEd K))) ∧ Below w.heap.size w w'
set_option maxHeartbeats 8000000 in
theorem ormwinners_any (w : World) (N m kb ab db sv sb : Nat) (K : List El) (AL : List (Ky × Nat × List Dt)) (D M : List Dt) (h : Om w N m kb ab db sv sb K AL D M) (hs : OmSt K AL D M) (hK : K.length ≤ 1000) :
    Calls Tryz.prog 19 #[.pointer (some ⟨m, 0, none⟩)] w (WinsE w K AL) := by
  have HO := Lib.hid h
  have HST := Lib.hid hs
  have hsz : Maps.size (DataW.map (((aliveV AL).map (pV Tryz.prog 54 kyV)).foldr DataW.insert [])) = AL.length := by
    show List.length _ = _
    rw [length_sorted, List.length_map]; simp [aliveV]
  have hCs := ComeV.start key_key h.alive
  have hstep := fun left ss hC x hx y hlk hat => ComeV.step key_key h.alive (left := left) (ss := ss) hC (x := x) hx (y := y) hlk hat
  have hperm := fun left ss hC hl => ComeV.perm h.alive (left := left) (ss := ss) hC hl
  have hown1 := h.alive.1
  have hkl : (aliveV AL).length = AL.length := by simp [aliveV]
  have hcell := h.cells.2.1
  rw [hkl] at hown1
  have hle : AL.length ≤ 1000 ∧ ∀ p ∈ AL, p.2.2.length ≤ 1000 := ⟨Nat.le_trans hs.le.1 hK, fun p hp => Nat.le_trans (hs.le.2 p hp) hK⟩
  have HND := Lib.hid h.alive.2.1
  have HLE := Lib.hid hle.2
  have hAL := hle.1
  clear h hs hle
  generalize hD0 : (DataW.map (((aliveV AL).map (pV Tryz.prog 54 kyV)).foldr DataW.insert []) : DataW Value) = D0 at *
  go_enter Tryz.func19, Tryz.ntmps19
  go_wp2_with (first
    | (at_range; refine wpList_range_own _ rfl _ 90 rfl 54 91 key_key.law Tryz.underlying90 _ ab AL.length _ rfl hown1 ?_; intro w0 hrg0 hg0 hs0)
    | go_in)
  have HS := Lib.hid hstep
  have HP := Lib.hid hperm
  have HB0 := Lib.hid (show Below w.heap.size w w0 from (Below.refl _ _).grown hg0 (Nat.le_refl _) (fun k hk => by cases hk))
  have hsz0 : w0.heap.size = w.heap.size + 1 := hs0
  have hab := HO.out.alive.lt
  clear hstep hperm hD0
  go_frame
  go_loopw [3] (fun s wr => ∃ (left : Lit → Bool) (cnt : Nat) (kss : List Ky) (A2 : Option Addr) (c2 : Nat), s = .slice A2 kss.length c2 ∧ wr.ranges Tryz.prog 54 rdV ab w.heap.size AL.length D0 left cnt ∧ kss.length + cnt ≤ AL.length ∧ ComeV Tryz.prog 54 kyV kyOk (aliveV AL) left kss ∧ GaK w (w.heap.size + 1) wr A2 c2 kss)
    (fun _ wr => wr.rangeLeft ab w.heap.size)
  case atStart =>
    exact ⟨_, _, [], none, 0, rfl, hrg0, by simp [hsz], hCs, ⟨Own.nil_, HB0.out, by omega⟩⟩
  case round =>
    obtain ⟨left, cnt, kss, A2, c2, rfl, hrg, hcs, hC, hG⟩ := hrel
    go_wp2_with (first
      | (at_next; refine wpList_next_ranges _ rfl _ rfl 54 key_key.law rdV kyV id (fun key kl hk => by obtain ⟨x, _, hx⟩ := key_key.inv _ _ hk; exact ⟨x, hx⟩) (fun v _ _ => ⟨v, rfl⟩) ab w.heap.size AL.length _ _ _ rfl hrg ?_ ?_)
      | go_in)
    · intro hc0 hl0
      have hp := HP.out _ _ hC hl0
      have hp' : kss.Perm (AL.map (·.1)) := by simp only [aliveV, List.map_map] at hp; exact hp
      obtain ⟨L, hLs, hLp⟩ := ksort_ex kss (hp.nodup_iff.2 HND.out)
      have CS := Lib.hid (sortO_key A2 c2 kss L wr (w.heap.size + 1) hG.ow hG.le (by omega) hLs hLp)
      have HBr := Lib.hid hG.be
      have HL := Lib.hid (And.intro hLs (hLp.symm.trans hp'))
      have hll := hLp.length_eq
      have hL1 : kss.length ≤ 1000 := by have := hp'.length_eq; simp at this; omega
      clear hp hp' hLs hLp hC hG
      generalize kss.length = n at *
      have HNn := Lib.hid hll
      clear hll
      go_wp2_with fail
      refine CS.out.mono ?_; rintro r w1 ⟨rfl, ho1, b1⟩
      rw [← HNn.out] at ho1
      have HK1 := Lib.hid ho1
      have HB1 := Lib.hid (HBr.out.trans (below_of_le b1 (by omega)))
      clear CS HBr ho1 b1 hrg
      go_wp2_with fail
      go_loopw [5, 29] (fun s i wr => ∃ (j : Nat) (A3 : Option Addr) (c3 : Nat) (Es : List El), j ≤ n ∧ i = .int .i64 j ∧ s = .slice A3 j c3 ∧ Es.length = j ∧ eds Es = (L.take j).map (fun k => winE ((dsort (alAt AL k)).map (kEd K))) ∧ SoW w1 w1.heap.size wr A3 c3 Es) (fun s i _ => n - (intOf i).toNat)
      case atStart => exact ⟨0, none, 0, [], by omega, rfl, rfl, rfl, rfl, SoW.start w1⟩
      case round =>
        obtain ⟨j, A3, c3, Es, hj, rfl, rfl, hEl, hEs, hS⟩ := hrel
        have HSS := Lib.hid hS
        have HE := Lib.hid (And.intro hEl hEs)
        clear hS hEl hEs
        by_cases hlt : j < n
        · obtain ⟨k, hk⟩ : ∃ k, L[j]? = some k := ⟨L[j]'(by have := HNn.out; omega), List.getElem?_eq_getElem _⟩
          obtain ⟨p, hpA, hpk⟩ : ∃ p ∈ AL, p.1 = k := by
            have := HL.out.2.mem_iff.1 (List.mem_of_getElem? hk)
            obtain ⟨p, hp, e⟩ := List.mem_map.1 this
            exact ⟨p, hp, e⟩
          have hkr : Rd w1 w1.heap.size 3 A2 L.length (kys L) := by have := HK1.out.rd; rw [HNn.out] at this; exact this
          obtain ⟨b0, o0, hA0, hbN, hrgk⟩ := rd_range (k := 3) (by decide) (C := kyC) (fun _ => rfl) (show Rd wr w1.heap.size 3 A2 L.length (L.flatMap kyC) from hkr.below HSS.out.be) hk
          subst hA0
          subst hpk
          obtain ⟨⟨nm, dm, pt⟩, pb, pds⟩ := p
          have HRK := Lib.hid (show wr.rangeAt b0 (o0 + j * 3) (#[.string (bs nm), .string (bs dm), .string (bs pt)] : Array Value).toList from hrgk)
          have HX := Lib.hid (And.intro hk hpA)
          have b3 := (Below.refl wr.heap.size wr).alloc (Nat.le_refl _) (.cells #[.string (bs nm), .string (bs dm), .string (bs pt)] 54)
          have HS3 := Lib.hid (HSS.out.up b3)
          have hW3 := Whole.new wr 54 #[.string (bs nm), .string (bs dm), .string (bs pt)]
          have HW3 := Lib.hid hW3
          have CW := Lib.hid (show Calls Tryz.prog 57 #[.pointer (some ⟨m, 0, none⟩), .agg #[.string (bs nm), .string (bs dm), .string (bs pt)]] (wr.alloc (.cells #[.string (bs nm), .string (bs dm), .string (bs pt)] 54)) _ from ormwinner_any _ N m kb ab db sv sb K AL D M (HO.out.up (HB1.out.trans (below_of_le HS3.out.be HB1.out.size))) HST.out ((nm, dm, pt), pb, pds) hpA (HLE.out _ hpA))
          clear hk hpA hkr hrgk b3 hW3
          go_wp2_with (first | (refine ld_range (by rfl) _ rfl rfl HRK.out Tryz.underlying54 rfl (by kernel_rfl) ?_) | (refine ld_whole (by rfl) _ rfl rfl HW3.out Tryz.underlying54 rfl (by kernel_rfl) ?_))
          refine CW.out.mono ?_; rintro r w5 ⟨y, rfl, hye, ⟨N1, hyo⟩, b5⟩
          have HS5 := Lib.hid (HS3.out.up b5)
          have HY := Lib.hid (And.intro hye hyo)
          have hZ := Whole.new w5 59 zeroE'
          have HZ := Lib.hid hZ
          unfold zeroE' at HZ
          clear CW hye hyo b5 HS3 HW3 HRK hZ
          go_wp2_with (first | (refine st_whole (by rfl) _ _ rfl rfl rfl HZ.out (by rfl) (by kernel_rfl) (by rfl) ?_; intro W6 hX1 hC1 hz1; have H6 := Lib.hid (And.intro hX1 (And.intro hC1 hz1)); clear hX1 hC1 hz1) | (refine ld_whole (by rfl) _ rfl rfl H6.out.1 Tryz.underlying59 rfl (by kernel_rfl) ?_; refine holdU ?_))
          unfold HoldU
          have b6 := ((Below.refl w5.heap.size w5).alloc (Nat.le_refl _) (.cells zeroE' 59)).trans (H6.out.2.1.below (fun k hk e => by omega) (by simp))
          have HS6 := Lib.hid (HS5.out.up b6)
          have hyo6 := HY.out.2.below b6 (Nat.le_refl _)
          obtain ⟨A7, c7, w7, q7, o7, gr7, _, _⟩ := app1e W6 w1.heap.size A3 Es.length c3 (Es.flatMap elC) HS6.out.ow y (by have := HE.out.1; omega) HS6.out.le
          have HS7 := Lib.hid (HS6.out.app hyo6 o7 gr7)
          rw [HE.out.1] at q7
          clear o7 gr7 hyo6 b6 HS6 HS5 H6 HZ
          refine wpl_bslice (by rfl) (.tmp 40) (by rfl) _ (by rfl) _ _ (bs_ev _ _ _ _) ?_
          refine wpl_append_runs (by rfl) (.tmp 39) (.tmp 41) _ _ (by rfl) _ _ (by rfl) (by rfl) _ _ q7 ?_
          go_wp2
          go_roundw
          case rel => exact ⟨j + 1, A7, c7, Es ++ [y], by omega, by go_num, rfl, by simp [HE.out.1], by
            rw [List.take_add_one, HX.out.1, List.map_append, ← HE.out.2]
            simp only [eds, List.map_append, List.map_cons, List.map_nil, Option.toList_some, HY.out.1]
            rw [dsort_congr (alAt_one HND.out HX.out.2)], HS7.out⟩
          case measure => simp only [intOf]; omega
        · have hj' : j = n := by omega
          subst hj'
          have HEE := Lib.hid (show eds Es = L.map (fun k => winE ((dsort (alAt AL k)).map (kEd K))) by rw [HE.out.2, List.take_of_length_le (by rw [HNn.out]; exact Nat.le_refl _)])
          have HR := Lib.hid (show WinsE w K AL (.returned (.slice A3 j c3)) wr from ⟨A3, c3, Es, L, by rw [HE.out.1], HSS.out.at_, HL.out.1, HL.out.2, HEE.out, HB1.out.trans (below_of_le HSS.out.be HB1.out.size)⟩)
          go_wp2
          go_ret
          exact HR.out
    · intro nm dm pt c kl yd yp w2 cnt2 hkey hlk hv hat hrg2 hlt hg2 hs2 hen
      obtain ⟨x', okx, ex⟩ := key_key.inv _ _ hkey
      obtain rfl : (nm, dm, pt) = x' := key_key.inj _ _ ex
      have hkl2 := key_key.klit okx
      rw [hkey] at hkl2
      obtain rfl := Option.some.inj hkl2
      clear ex hkl2
      have hC2 := HS.out _ _ hC _ okx _ hlk hat
      unfold kyV at hen
      have hcg := grown_ch hg2
      have hG2 : GaK w (w.heap.size + 1) w2 A2 c2 kss := ⟨hG.ow.ch hcg (fun k hk _ _ e => by have e : some k = some w.heap.size := e; cases e; omega), hG.be.trans (hcg.below (fun k hk e => by have e : some k = some w.heap.size := e; cases e; omega) hG.be.size), Nat.le_trans hG.le hcg.size⟩
      have hG3 := Lib.hid (hG2.up ((Below.refl w2.heap.size w2).alloc (Nat.le_refl _) (.cells #[.string (bs nm), .string (bs dm), .string (bs pt)] 54)))
      have hrg3 := hrg2.alloc (.cells #[.string (bs nm), .string (bs dm), .string (bs pt)] 54)
      obtain ⟨A6, c6, w6, q6, o6, gr6, _, _⟩ := app1k (w2.alloc (.cells #[.string (bs nm), .string (bs dm), .string (bs pt)] 54)) (w.heap.size + 1) A2 kss.length c2 kss rfl hG3.out.ow (nm, dm, pt) (by omega) hG3.out.le
      have hrg6 := ranges_ch hrg3 gr6 (fun e => by have := hG3.out.ow.bl_lo _ e.symm; omega) (fun e => by have := hG3.out.ow.bl_lo _ e.symm; omega)
      have hG6 : GaK w (w.heap.size + 1) w6 A6 c6 (kss ++ [(nm, dm, pt)]) := ⟨by rw [List.length_append]; exact o6, hG3.out.be.trans (gr6.below (fun k hk e => by have := hG3.out.ow.bl_lo _ e.symm; omega) hG3.out.be.size), Nat.le_trans hG3.out.le gr6.size⟩
      have HG6 := Lib.hid (And.intro hG6 (And.intro hrg6 hC2))
      clear hG6 hrg6 hC2 hG2 hrg3 hG3 hG o6 gr6 hC hcg
      simp only at q6
      rw [show (w2.alloc (.cells #[.string (bs nm), .string (bs dm), .string (bs pt)] 54)).heap.size = wr.heap.size + 1 by simp [hs2]] at q6
      go_wp2_with (first | (at_builtin; refine wpl_append_runs (by rfl) _ _ _ _ rfl _ _ rfl rfl _ _ q6 ?_) | go_in)
      go_roundw
      case rel => exact ⟨_, cnt2, kss ++ [(nm, dm, pt)], A6, c6, by simp, HG6.out.2.1, by simp; omega, HG6.out.2.2, HG6.out.1⟩
      case measure => rw [HG6.out.2.1.left_eq, hrg.left_eq]; exact hlt
end Go.Proofs.YtpakmeegldgjmaaGreat
/- TopCarried: what is told while one map's events are carried to another one. -/
namespace Go.Proofs.YtpakmeegldgjmaaGreat
open Go.RowKit
set_option linter.unusedVariables false
set_option linter.unusedSimpArgs false
set_option maxRecDepth 100000

theorem EsAt.chM {w w' : World} {A : Option Addr} {Es : List El} (h : EsAt w w.heap.size A Es) (hc : Ch (fun k => MapB w k) w w') : EsAt w' w'.heap.size A Es :=
  ⟨(h.rd.chS (Nat.le_refl _) (by omega) (fun g hg => hg) hc).more hc.size, fun y hy => Ds.more (Rd.chS (h.ov y hy) (Nat.le_refl _) (by omega) (fun g hg => hg) hc) hc.size⟩
/-- Some block names, some context: a map of events. -/
def OmP (w : World) (N m : Nat) (K : List El) (AL : List (Ky × Nat × List Dt)) (D M : List Dt) : Prop := (∃ kb ab db sv sb, Om w N m kb ab db sv sb K AL D M) ∧ OmSt K AL D M
theorem OmP.up {w w' : World} {N m : Nat} {K : List El} {AL : List (Ky × Nat × List Dt)} {D M : List Dt} (h : OmP w N m K AL D M) (b : Below w.heap.size w w') : OmP w' N m K AL D M := by
  obtain ⟨⟨kb, ab, db, sv, sb, ho⟩, hs⟩ := h
  exact ⟨⟨kb, ab, db, sv, sb, ho.up b⟩, hs⟩
/-- Apply, whatever it says: a map of events still. -/
def ApwE (N m : Nat) (n : Nat) (w : World) (e : Ending) (w' : World) : Prop := ∃ (b : Bool) (r : Int) (K' : List El) (AL' : List (Ky × Nat × List Dt)) (D' M' : List Dt), e = .returned (.tuple #[.bool b, .int .i64 r]) ∧ OmP w' N m K' AL' D' M' ∧ K'.length ≤ n + 1 ∧ Below N w w'
theorem apw_any (w : World) (N m : Nat) (K : List El) (AL : List (Ky × Nat × List Dt)) (D M : List Dt) (h : OmP w N m K AL D M) (x : El) (hx : MsAt w x.A x.e.over) (hl : lgE x.e = true) (hK : K.length ≤ 900) (hN : N ≤ w.heap.size) :
    Calls Tryz.prog 15 #[.pointer (some ⟨m, 0, none⟩), .agg (evA x.e x.A x.c)] w (ApwE N m K.length w) := by
  obtain ⟨⟨kb, ab, db, sv, sb, ho⟩, hs⟩ := h
  refine (ormapply_any w N m kb ab db sv sb K AL D M ho hs x hx hl hK hN).mono ?_
  rintro e w' (⟨_, rfl, b⟩ | ⟨_, _, rfl, b⟩ | ⟨_, _, _, rfl, b⟩ | ⟨_, _, _, rfl, A, c, AL', D', M', ho', hs', b, _⟩)
  · exact ⟨_, _, K, AL, D, M, rfl, ⟨⟨kb, ab, db, sv, sb, ho.up b⟩, hs⟩, by omega, below_of_le b hN⟩
  · exact ⟨_, _, K, AL, D, M, rfl, ⟨⟨kb, ab, db, sv, sb, ho.up b⟩, hs⟩, by omega, below_of_le b hN⟩
  · exact ⟨_, _, K, AL, D, M, rfl, ⟨⟨kb, ab, db, sv, sb, ho.up b⟩, hs⟩, by omega, below_of_le b hN⟩
  · exact ⟨_, _, _, AL', D', M', rfl, ⟨⟨kb, ab, db, sv, sb, ho'⟩, hs'⟩, by simp, b⟩
/-- What is told while events go over: the other map has a beginning of them. -/
structure CaS (w2 W : World) (n : Nat) (S : List Ed) (jj : Nat) (Aa : Option Addr) (As : List El) : Prop where
  be : Below w2.heap.size w2 W
  le : w2.heap.size ≤ W.heap.size
  al : EsAt W W.heap.size Aa As
  om : ∃ K AL D M, OmP W w2.heap.size n K AL D M ∧ eds K = S.take jj
theorem CaS.up {w2 W W' : World} {n jj : Nat} {S : List Ed} {Aa : Option Addr} {As : List El} (h : CaS w2 W n S jj Aa As) (b : Below W.heap.size W W') : CaS w2 W' n S jj Aa As := by
  obtain ⟨K, AL, D, M, ho, hk⟩ := h.om
  exact ⟨h.be.trans (below_of_le b h.le), Nat.le_trans h.le b.size, h.al.up b, K, AL, D, M, ho.up b, hk⟩
theorem CaS.take_ge {w2 W : World} {n jj kk : Nat} {S : List Ed} {Aa : Option Addr} {As : List El} (h : CaS w2 W n S jj Aa As) (e : S.take jj = S.take kk) : CaS w2 W n S kk Aa As := by
  obtain ⟨K, AL, D, M, ho, hk⟩ := h.om
  exact ⟨h.be, h.le, h.al, K, AL, D, M, ho, hk.trans e⟩
/-- An event goes over. -/
theorem carry_any {K0 : List El} {AL0 : List (Ky × Nat × List Dt)} {D0 M0 : List Dt} (h0 : OmSt K0 AL0 D0 M0) (hK0 : K0.length ≤ 25) {w2 w : World} {n jj i : Nat} {Aa : Option Addr} {As : List El} (h : CaS w2 w n (sevs K0) jj Aa As) (x : El) (hx : MsAt w x.A x.e.over) (hi : (sevs K0)[i]? = some x.e) (hij : i ≤ jj) (hj : jj ≤ K0.length) :
    Calls Tryz.prog 15 #[.pointer (some ⟨n, 0, none⟩), .agg (evA x.e x.A x.c)] w fun e w' => ∃ b : Bool, e = .returned (.tuple #[.bool b, .int .i64 0]) ∧ CaS w2 w' n (sevs K0) (max jj (i + 1)) Aa As ∧ Ch (fun k => MapB w k) w w' := by
  obtain ⟨K, AL, D, M, ⟨⟨kb, ab, db, sv, sb, ho⟩, hs⟩, hk⟩ := h.om
  have hev := h0.sv x.e (List.mem_of_getElem? hi)
  have hKl : K.length ≤ 25 := by
    have := congrArg List.length hk
    rw [List.length_take] at this
    simp [eds] at this
    omega
  refine (ormapply_any w _ n kb ab db sv sb K AL D M ho hs x hx hev.2 (by omega) h.le).mono ?_
  rcases Nat.lt_or_ge i jj with hlt | hge
  · have hv := carry_old h0 hs hi hlt hk
    rintro e w' (⟨h1, _⟩ | ⟨_, _, rfl, b⟩ | ⟨_, h1, _⟩ | ⟨_, h1, _⟩)
    · rw [hev.1] at h1; cases h1
    · refine ⟨_, rfl, (h.up b).take_ge (by rw [Nat.max_eq_left (by omega)]), below_ch b⟩
    · rw [hv] at h1; cases h1
    · rw [hv] at h1; cases h1
  · obtain rfl : i = jj := by omega
    obtain ⟨hv, hq⟩ := carry_new h0 hs hi hk
    rintro e w' (⟨h1, _⟩ | ⟨_, h1, _⟩ | ⟨_, _, h1, _⟩ | ⟨_, _, _, rfl, A, c, AL', D', M', ho', hs', b, hc⟩)
    · rw [hev.1] at h1; cases h1
    · rw [hv] at h1; cases h1
    · exact absurd hq h1
    · refine ⟨_, rfl, ⟨h.be.trans b, Nat.le_trans h.le b.size, h.al.chM hc, _, AL', D', M', ⟨⟨kb, ab, db, sv, sb, ho'⟩, hs'⟩, ?_⟩, hc⟩
      rw [Nat.max_eq_right (by omega), List.take_add_one, hi, ← hk]
      simp [eds]
end Go.Proofs.YtpakmeegldgjmaaGreat
/- The walk of the law TopCarried. -/
namespace Go.Proofs.YtpakmeegldgjmaaGreat
open Go.RowKit
set_option linter.unusedVariables false
set_option linter.unusedSimpArgs false
set_option maxRecDepth 100000
attribute [local go_sem ↓] Go.wp_at_zero Go.wp_at_succ
attribute [local go_sem] bs_size bs_list bs_nil_list

theorem topCarried_far (w : World) (A : Option Addr) (c : Nat) (Es : List El) (per twice : Int) (h : EsAt w w.heap.size A Es) (hl : Es.length ≤ 9223372036854775807) (hlg : lgA (eds Es) 25 = false) :
    Calls Tryz.prog 4 #[.slice A Es.length c, .int .u8 per, .int .u8 twice] w fun e w' => e = .returned (.bool true) ∧ Below w.heap.size w w' := by
  have C9 := Lib.hid awake35_any
  have CL0 := lightall_any Es A c 25 w h hl
  rw [hlg, show ((25 : Nat) : Int) = 25 from rfl] at CL0
  have CL := Lib.hid CL0
  generalize Es.length = n at *
  clear CL0 hlg h hl
  go_enter Tryz.func4, Tryz.ntmps4
  go_wp2_with fail
  refine CL.out.mono ?_; rintro r w1 ⟨rfl, b1⟩
  go_wp2_with fail
  refine (C9.out _).mono ?_; rintro e w2 ⟨rfl, hb2⟩
  go_wp2
  go_ret
  exact ⟨rfl, b1.trans (below_of_le hb2 b1.size)⟩
/-- The message under way and the state. -/
structure InS (w2 W : World) (n : Nat) (S : List Ed) (jj : Nat) (Aa : Option Addr) (As : List El) (X : Nat) (x : Ml) : Prop where
  ca : CaS w2 W n S jj Aa As
  ms : Whole W X 30 (mlC x)
  es : EsAt W W.heap.size x.Ae x.es
theorem InS.up {w2 W W' : World} {n jj X : Nat} {S : List Ed} {Aa : Option Addr} {As : List El} {x : Ml} (h : InS w2 W n S jj Aa As X x) (b : Below W.heap.size W W') : InS w2 W' n S jj Aa As X x := ⟨h.ca.up b, h.ms.below b h.ms.lt, h.es.up b⟩
theorem MapB.ne_whole {w : World} {g : Nat} {t : TypeId} {cs : Array Value} (k : Whole w g t cs) : ¬ MapB w g := fun h => h.neWhole k rfl
theorem wn_in (b : Ed) (l : List Ed) : wn b l = b ∨ wn b l ∈ l := by
  induction l generalizing b with
  | nil => exact .inl rfl
  | cons x r ih =>
    unfold wn
    rcases ih (if stL x.st.1 x.st.2.1 x.st.2.2 b.st.1 b.st.2.1 b.st.2.2 = true then b else x) with h | h
    · rw [h]
      split
      · exact .inl rfl
      · exact .inr (List.mem_cons_self ..)
    · exact .inr (List.mem_cons_of_mem _ h)
theorem winE_short {l : List Ed} (h : ∀ e ∈ l, short e) : short (winE l) := by
  cases l with
  | nil => exact ⟨by decide, by decide, by decide, by decide, by decide⟩
  | cons x r =>
    rcases wn_in x r with e | e
    · show short (wn x r); rw [e]; exact h x (List.mem_cons_self ..)
    · exact h _ (List.mem_cons_of_mem _ e)
theorem OmSt.shorts {K : List El} {AL : List (Ky × Nat × List Dt)} {D M : List Dt} (h : OmSt K AL D M) {L : List Dt} (hL : ∀ d ∈ L, d ∈ K.map fun x => x.e.dot) : ∀ e ∈ (dsort L).map (kEd K), short e := fun e he => by
  obtain ⟨d, hd, rfl⟩ := List.mem_map.1 he
  obtain ⟨x, hx, ex⟩ := List.mem_map.1 (kEd_dot (hL d ((mem_dsort _ _).1 hd))).2
  rw [← ex]
  exact lgE_short (h.ev x hx).2
theorem alDots_len {AL : List (Ky × Nat × List Dt)} {n : Nat} (h : ∀ p ∈ AL, p.2.2.length ≤ n) : (alDots AL).length ≤ AL.length * n := by
  induction AL with
  | nil => simp [alDots]
  | cons p r ih =>
    have h1 := ih (fun q hq => h q (List.mem_cons_of_mem _ hq))
    have h2 := h p (List.mem_cons_self ..)
    unfold alDots at h1 ⊢
    rw [List.flatMap_cons, List.length_append, List.length_cons, Nat.succ_mul]
    omega
theorem shorts_of {Es : List El} {l : List Ed} (e : eds Es = l) (h : ∀ x ∈ l, short x) : Go.Proofs.YtpakmeegldgjmaaGreat.shorts Es := fun y hy => h y.e (by rw [← e]; exact List.mem_map_of_mem hy)
theorem eds_drop (Es : List El) (k : Nat) : eds (Es.drop k) = (eds Es).drop k := List.map_drop ..
theorem eds_take (Es : List El) (k : Nat) : eds (Es.take k) = (eds Es).take k := List.map_take ..
theorem eds_len (Es : List El) : (eds Es).length = Es.length := by simp [eds]
set_option maxHeartbeats 16000000 in
theorem topCarried_near (w : World) (A : Option Addr) (c : Nat) (Es : List El) (per twice : Int) (h : EsAt w w.heap.size A Es) (hlg : lgA (eds Es) 25 = true) (p0 : 0 ≤ per) (p1 : per ≤ 255) (t0 : 0 ≤ twice) (t1 : twice ≤ 255) :
    Calls Tryz.prog 4 #[.slice A Es.length c, .int .u8 per, .int .u8 twice] w fun e w' => e = .returned (.bool true) ∧ Below w.heap.size w w' := by
  have C9 := Lib.hid awake35_any
  have hlg' := hlg
  unfold lgA at hlg'
  simp only [Bool.and_eq_true, decide_eq_true_eq, List.all_eq_true] at hlg'
  have hn25 : Es.length ≤ 25 := by rw [← eds_len]; exact hlg'.1
  have CL0 := lightall_any Es A c 25 w h (by omega)
  rw [hlg, show ((25 : Nat) : Int) = 25 from rfl] at CL0
  have CL := Lib.hid CL0
  have CN := Lib.hid ormnew_any
  have HEs := Lib.hid (And.intro h hlg'.2)
  generalize hlen : Es.length = n at *
  have HLn := Lib.hid hlen
  clear CL0 hlg h hlg' hlen
  go_enter Tryz.func4, Tryz.ntmps4
  go_wp2_with fail
  refine CL.out.mono ?_; rintro r w1 ⟨rfl, b1⟩
  go_wp2_with fail
  refine (CN.out _).mono ?_; rintro r w1b ⟨m, kb, ab, db, sv, sb, rfl, hmN, hO, b2⟩
  have HB1 := Lib.hid b1
  have HI := Lib.hid (show OmP w1b w1.heap.size m [] [] [] [] from ⟨⟨kb, ab, db, sv, sb, hO⟩, OmSt.nil⟩)
  have HB2 := Lib.hid b2
  clear CL b1 b2 hO hmN
  go_wp2_with fail
  go_loopw [8] (fun i wr => ∃ (j : Nat) (K : List El) (AL : List (Ky × Nat × List Dt)) (D M : List Dt), j ≤ n ∧ i = .int .i64 j ∧ OmP wr w1.heap.size m K AL D M ∧ K.length ≤ j ∧ Below w1.heap.size w1 wr) (fun i _ => n - (intOf i).toNat)
  case atStart => exact ⟨0, [], [], [], [], by omega, rfl, HI.out, Nat.le_refl _, HB2.out⟩
  case round =>
    obtain ⟨j, K, AL, D, M, hj, rfl, hP, hKl, hb⟩ := hrel
    have HP := Lib.hid hP
    have HB := Lib.hid hb
    clear hP hb HI HB2
    by_cases hlt : j < n
    · obtain ⟨x, hx⟩ : ∃ x, Es[j]? = some x := ⟨Es[j]'(by have := HLn.out; omega), List.getElem?_eq_getElem _⟩
      have hEs := (HEs.out.1.up HB1.out).up HB.out
      obtain ⟨b0, o0, hA, hbN, hrg, hds⟩ := hEs.at_ hx
      subst hA
      have HRG := Lib.hid hrg
      have CA := Lib.hid (apw_any wr w1.heap.size m K AL D M HP.out x hds (HEs.out.2 x.e (List.mem_map_of_mem (List.mem_of_getElem? hx))) (by omega) HB.out.size)
      clear hx hrg hds hEs
      go_wp2_with (refine ld_range (by rfl) _ rfl rfl HRG.out Tryz.underlying59 rfl (by kernel_rfl) ?_)
      refine CA.out.mono ?_; rintro r w5 ⟨b, rr, K', AL', D', M', rfl, hP', hKl', b5⟩
      have HP' := Lib.hid hP'
      have HB5 := Lib.hid (HB.out.trans b5)
      clear hP' b5 CA HP HB HRG
      go_wp2
      go_roundw
      case rel => exact ⟨j + 1, K', AL', D', M', by omega, by go_num, HP'.out, by omega, HB5.out⟩
      case measure => simp [intOf]; omega
    · have hj' : n = j := by omega
      subst hj'
      obtain ⟨⟨kb', ab', db', sv', sb', hOm⟩, hSt⟩ := HP.out
      have HOm := Lib.hid hOm
      have HSt := Lib.hid hSt
      have hK25 : K.length ≤ 25 := by omega
      clear hOm hSt HP hlt
      go_wp2_with fail
      refine (CN.out _).mono ?_; rintro r w3 ⟨m2, kb2, ab2, db2, sv2, sb2, rfl, hmN2, hO2, b3⟩
      have HB3 := Lib.hid b3
      have HI2 := Lib.hid (show OmP w3 wr.heap.size m2 [] [] [] [] from ⟨⟨kb2, ab2, db2, sv2, sb2, hO2⟩, OmSt.nil⟩)
      have CE := Lib.hid (ormevents_any w3 w1.heap.size m kb' ab' db' sv' sb' K AL D M (HOm.out.up b3) HSt.out (by omega))
      clear CN hO2 hmN2 b3
      go_wp2_with fail
      refine CE.out.mono ?_; rintro r w4 ⟨A4, c4, As, rfl, hE4, he4, b4⟩
      have he4' : eds As = sevs K := he4
      have HT := Lib.hid (show As.length = (sevs K).length by rw [← he4', eds_len])
      have hT25 : As.length ≤ 25 := by have := sevs_len HSt.out.nd; have := HT.out; omega
      have HC0 := Lib.hid (show CaS wr w4 m2 (sevs K) 0 A4 As from ⟨HB3.out.trans (below_of_le b4 HB3.out.size), Nat.le_trans HB3.out.size b4.size, hE4.at_, [], [], [], [], HI2.out.up b4, rfl⟩)
      have HEA := Lib.hid (And.intro he4' (And.intro hE4.len hE4.cap))
      have HBW := Lib.hid (show Below w.heap.size w wr from HB1.out.trans (below_of_le HB.out HB1.out.size))
      clear CE hE4 he4 he4' b4 HI2 HB3
      generalize hTT : As.length = T at *
      have HTT := Lib.hid hTT
      clear hTT
      go_wp2_with fail
      obtain ⟨st, hst⟩ : ∃ st : Nat, per % 5 + 1 = (st : Int) := ⟨(per % 5 + 1).toNat, by omega⟩
      obtain ⟨tw, htw⟩ : ∃ tw : Nat, 1 + twice % 2 = (tw : Int) := ⟨(1 + twice % 2).toNat, by omega⟩
      have hst1 : 1 ≤ st ∧ st ≤ 5 := by omega
      have htw1 : 1 ≤ tw ∧ tw ≤ 2 := by omega
      have hSl : (sevs K).length = T := HT.out.symm
      rw [hst]
      generalize per % 5 = pm at *
      clear hst p0 p1
      have hs19 : ∀ w, (sizeOf (Tryz.prog.elem 28)).run Tryz.prog w = .ok 19 w := fun w => Tryz.sizeOf59 w
      have HSL := Lib.hid (run_midZ (P := Tryz.prog) 19 28 (by kernel_rfl) hs19)
      clear hs19
      generalize wr = w2 at *
      go_loopw [12] (fun i wr => ∃ at_ : Nat, i = .int .i64 at_ ∧ at_ ≤ 29 ∧ CaS w2 wr m2 (sevs K) at_ A4 As) (fun i _ => 30 - (intOf i).toNat)
      case atStart => exact ⟨0, rfl, by omega, HC0.out⟩
      case round =>
        obtain ⟨q, rfl, hq29, hC⟩ := hrel
        have HC := Lib.hid hC
        clear hC HC0
        by_cases hqT : q < T
        · obtain ⟨hi, hhi⟩ : ∃ hi : Nat, hi = min (q + st) T := ⟨_, rfl⟩
          have hhi1 : q < hi ∧ hi ≤ T ∧ hi ≤ q + 5 := by omega
          have hhi2 : (sevs K).take hi = (sevs K).take (q + st) := by
            rw [hhi]
            rcases Nat.le_total (q + st) T with h | h
            · rw [Nat.min_eq_left h]
            · rw [Nat.min_eq_right h, List.take_of_length_le (by omega), List.take_of_length_le (by omega)]
          have hmin : min ((q : Int) + st) T = (hi : Int) := by rw [hhi]; omega
          have HHI := Lib.hid hhi2
          have hsl := fun w => HSL.out A4 T c4 q hi (by omega) (by have := HEA.out.2.1; omega) w
          have hTd : As.length = T := HTT.out
          have hch : EsAt wr wr.heap.size (cutZ 19 A4 c4 q) ((As.drop q).take (hi - q)) := (HC.out.al.back (k := q) (c := c4) (by omega) (by have := HEA.out.2.1; omega)).front (by rw [List.length_drop]; omega)
          have hce : eds ((As.drop q).take (hi - q)) = ((sevs K).drop q).take (hi - q) := by rw [eds_take, eds_drop, HEA.out.1]
          have hcl : ((As.drop q).take (hi - q)).length = hi - q := by rw [List.length_take, List.length_drop]; omega
          have hq2 : msB (mlM ⟨2, 0, 1, [], none, 0, (As.drop q).take (hi - q), cutZ 19 A4 c4 q, c4 - q⟩) = true := by
            unfold mlM
            simp only
            rw [hce]
            exact carry_msg HSt.out hK25 _ _
          have hsh : Go.Proofs.YtpakmeegldgjmaaGreat.shorts ((As.drop q).take (hi - q)) := shorts_of hce (fun x hx => lgE_short (HSt.out.sv x ((List.drop_subset _ _ ((List.take_subset _ _ hx))))).2)
          have CB := msgbytes_any ⟨2, 0, 1, [], none, 0, (As.drop q).take (hi - q), cutZ 19 A4 c4 q, c4 - q⟩ wr ⟨Rd.nil_, hch⟩ ⟨hsh, by simp, by simp only; omega⟩ (by simp only; omega) hq2
          unfold mlC at CB
          simp only [hcl, List.length_nil] at CB
          have CB := Lib.hid CB
          have HQ2 := Lib.hid (And.intro hq2 (And.intro hce hcl))
          clear hhi hhi2 hch hce hcl hq2 hsh hTd
          generalize cutZ 19 A4 c4 q = AC at *
          generalize (As.drop q).take (hi - q) = Ch0 at *
          go_wp2_with fail
          refine CB.out.mono ?_; rintro r w5 ⟨A5, c5, rfl, o5, b5⟩
          have HC5 := Lib.hid (HC.out.up b5)
          have hel : (eds Ch0).length ≤ 64 := by rw [eds_len]; have := HQ2.out.2.2; omega
          have hpl := msP_len HQ2.out.1 (by simp [mlM]) hel
          have hfl : (msF (mlM ⟨2, 0, 1, [], none, 0, Ch0, AC, c4 - q⟩)).length ≤ 1000000 := by
            have := frm_len (l := msP (mlM ⟨2, 0, 1, [], none, 0, Ch0, AC, c4 - q⟩)) (by omega)
            unfold msF
            omega
          have CP := Lib.hid (msgparse_any (mlM ⟨2, 0, 1, [], none, 0, Ch0, AC, c4 - q⟩) HQ2.out.1 (by simp [mlM]) hel A5 _ c5 w5 o5.rd hfl o5.2.1 o5.2.2)
          clear CB HC o5 b5 hpl hfl hel hsl hmin
          generalize (msF (mlM ⟨2, 0, 1, [], none, 0, Ch0, AC, c4 - q⟩)).length = nb at *
          go_wp2_with fail
          refine CP.out.mono ?_; rintro r w6 ⟨x1, rfl, hx1, hat1, b6⟩
          have hZ := Whole.new w6 30 zeroM
          have HZ := Lib.hid hZ
          unfold zeroM at HZ
          have hxe : eds x1.es = ((sevs K).drop q).take (hi - q) := by rw [← HQ2.out.2.1]; exact congrArg Md.evs hx1
          have HXE := Lib.hid hxe
          have hxl : x1.es.length = hi - q := by rw [← eds_len, hxe, List.length_take, List.length_drop]; omega
          have HC6 := Lib.hid (HC5.out.up b6)
          have HA6 := Lib.hid hat1.es
          clear hZ CP hx1 hat1 b6 HC5 HQ2 hxe
          go_wp2_with (refine st_whole (by rfl) _ _ rfl rfl rfl HZ.out (by rfl) (by kernel_rfl) (by rfl) ?_; intro W7 hX1 hC1 hz1; have H7 := Lib.hid (And.intro hX1 (And.intro hC1 hz1)); clear hX1 hC1 hz1)
          have hX6 : w6.heap.size < W7.heap.size := H7.out.1.lt
          have b7 := ((Below.refl w6.heap.size w6).alloc (Nat.le_refl _) (.cells zeroM 30)).trans (H7.out.2.1.below (fun k hk e => by omega) (by simp))
          have HI7 := Lib.hid (show InS w2 W7 m2 (sevs K) q A4 As w6.heap.size x1 from ⟨HC6.out.up b7, H7.out.1, HA6.out.up b7⟩)
          obtain ⟨ln, hln⟩ : ∃ ln, ln = hi - q := ⟨_, rfl⟩
          rw [← hln] at hxl HXE
          have hln1 : q + ln = hi := by omega
          have HXL := Lib.hid hxl
          clear b7 H7 HZ HC6 HA6 hX6 hxl hln
          generalize w6.heap.size = X at *
          go_loopw [17] (fun i wr => ∃ a jj : Nat, i = .int .i64 a ∧ a ≤ tw ∧ q ≤ jj ∧ jj ≤ hi ∧ (0 < a → jj = hi) ∧ InS w2 wr m2 (sevs K) jj A4 As X x1) (fun i _ => 3 - (intOf i).toNat)
          case atStart => exact ⟨0, q, rfl, by omega, by omega, by omega, by omega, HI7.out⟩
          case round =>
            obtain ⟨a, jj, rfl, hatw, hjj1, hjj2, hjj3, hI⟩ := hrel
            have HI8 := Lib.hid hI
            clear hI HI7
            by_cases hat : a < tw
            · generalize wr = w8 at *
              go_wp2_with fail
              go_loopw [18] (fun i wr => ∃ e jj : Nat, i = .int .i64 e ∧ e ≤ ln ∧ q + e ≤ jj ∧ jj ≤ hi ∧ InS w2 wr m2 (sevs K) jj A4 As X x1) (fun i _ => ln - (intOf i).toNat)
              case atStart => exact ⟨0, jj, rfl, by omega, by omega, by omega, HI8.out⟩
              case round =>
                obtain ⟨e, jk, rfl, hel, hjk1, hjk2, hI⟩ := hrel
                have HI9 := Lib.hid hI
                have cX : wr.cell? ⟨X, 4, none⟩ = some (.slice x1.Ae ln x1.ce) := by rw [hI.ms.cell, ← HXL.out]; rfl
                clear hI HI8
                by_cases hel2 : e < ln
                · obtain ⟨x, hx⟩ : ∃ x, x1.es[e]? = some x := ⟨x1.es[e]'(by have := HXL.out; omega), List.getElem?_eq_getElem _⟩
                  obtain ⟨b0, o0, hA0, hbN, hrg, hds⟩ := HI9.out.es.at_ hx
                  rw [hA0] at cX
                  have hxi : (sevs K)[q + e]? = some x.e := by
                    have h1 := eds_get hx
                    rw [HXE.out, List.getElem?_take_of_lt hel2, List.getElem?_drop] at h1
                    exact h1
                  have HRG := Lib.hid hrg
                  have CA := Lib.hid (carry_any HSt.out hK25 HI9.out.ca x hds hxi hjk1 (by have := sevs_len HSt.out.nd; omega))
                  clear hx hrg hds hxi hA0
                  go_wp2_with (refine ld_range (by rfl) _ rfl rfl HRG.out Tryz.underlying59 rfl (by kernel_rfl) ?_)
                  refine CA.out.mono ?_; rintro r w10 ⟨b, rfl, hC10, hc10⟩
                  have HI10 := Lib.hid (show InS w2 w10 m2 (sevs K) (max jk (q + e + 1)) A4 As X x1 from ⟨hC10, HI9.out.ms.ch hc10 (MapB.ne_whole HI9.out.ms), HI9.out.es.chM hc10⟩)
                  clear CA hC10 hc10 HI9 HRG cX
                  go_wp2
                  go_roundw
                  case rel => exact ⟨e + 1, max jk (q + e + 1), by go_num, by omega, by omega, by omega, HI10.out⟩
                  case measure => simp [intOf]; omega
                · have hjk : jk = hi := by omega
                  subst hjk
                  go_wp2
                  go_roundw
                  case rel => exact ⟨a + 1, jk, by go_num, by omega, by omega, by omega, fun _ => rfl, HI9.out⟩
                  case measure => simp [intOf]; omega
            · have hjh := hjj3 (by omega)
              subst hjh
              go_wp2
              go_roundw
              case rel => exact ⟨q + st, by go_num, by omega, HI8.out.ca.take_ge HHI.out⟩
              case measure => simp [intOf]; omega
        · obtain ⟨K2, AL2, D2, M2, ⟨⟨kb3, ab3, db3, sv3, sb3, ho3⟩, hs3⟩, hk2⟩ := HC.out.om
          have hk2' : eds K2 = sevs K := by rw [hk2, List.take_of_length_le (by omega)]
          have HSO := Lib.hid (SameO.of HSt.out hs3 hk2')
          have hK2 : K2.length ≤ 25 := by have := congrArg List.length hk2'; rw [eds_len] at this; omega
          have HO3 := Lib.hid ho3
          have HS3 := Lib.hid hs3
          have HCC := Lib.hid (And.intro HC.out.al (And.intro HC.out.be HC.out.le))
          have CE := Lib.hid (ormevents_any wr w2.heap.size m2 kb3 ab3 db3 sv3 sb3 K2 AL2 D2 M2 ho3 hs3 (by omega))
          clear ho3 hs3 hk2 hk2' HC HSL
          go_wp2_with fail
          refine CE.out.mono ?_; rintro r w11 ⟨A6, c6, Ev, rfl, hE6, he6, b6⟩
          have hev : eds Ev = sevs K := he6.trans HSO.out.events
          have HEV := Lib.hid hev
          have HE6 := Lib.hid (And.intro hE6.at_ b6)
          have HB11 := Lib.hid (HCC.out.2.1.trans (below_of_le b6 HCC.out.2.2))
          have CA1 := Lib.hid (ormalive_any w11 w1.heap.size m kb' ab' db' sv' sb' K AL D M (HOm.out.up HB11.out) HSt.out (by omega))
          have hEl : Ev.length = T := by rw [← eds_len, hev]; exact hSl
          rw [hEl]
          have HEL := Lib.hid hEl
          clear CE hE6 he6 b6 hev hEl
          go_wp2_with fail
          refine CA1.out.mono ?_; rintro r w12 ⟨A7, c7, Al, rfl, hE7, he7, b7⟩
          have HE7 := Lib.hid (And.intro hE7.at_ (And.intro he7 b7))
          clear CA1 hE7 he7 b7
          have CS1 := rsameall_eq Ev As A6 A4 c6 c4 w12 (HE6.out.1.up HE7.out.2.2) ((HCC.out.1.up HE6.out.2).up HE7.out.2.2) (HEV.out.trans HEA.out.1.symm) (shorts_of HEV.out (fun x hx => lgE_short (HSt.out.sv x hx).2)) (by have := HEL.out; omega)
          rw [HEL.out, HTT.out] at CS1
          have CS1 := Lib.hid CS1
          go_wp2_with fail
          refine CS1.out.mono ?_; rintro r w13 ⟨rfl, b13⟩
          have HB13 := Lib.hid (HE7.out.2.2.trans (below_of_le b13 HE7.out.2.2.size))
          have HA13 := Lib.hid (HE7.out.1.up b13)
          have HB3 := Lib.hid (HE6.out.2.trans (below_of_le HB13.out HE6.out.2.size))
          have CA2 := Lib.hid (ormalive_any w13 w2.heap.size m2 kb3 ab3 db3 sv3 sb3 K2 AL2 D2 M2 (HO3.out.up HB3.out) HS3.out (by omega))
          clear CS1 b13
          go_wp2_with fail
          refine CA2.out.mono ?_; rintro r w14 ⟨A8, c8, Al2, rfl, hE8, he8, b8⟩
          have hal : eds Al2 = eds Al := by rw [he8, HE7.out.2.1, HSO.out.alive HSt.out HS3.out]
          have hall : Al.length = Al2.length := by rw [← eds_len, ← hal, eds_len]
          have hsh8 : Go.Proofs.YtpakmeegldgjmaaGreat.shorts Al2 := shorts_of he8 (HS3.out.shorts (fun d hd => by obtain ⟨ky, a⟩ := (mem_alDots _ _).1 hd; exact alHas_in HS3.out a))
          have hln8 : Al2.length ≤ 1000000 := by
            rw [← eds_len, he8, List.length_map]
            have h1 := dsort_len (alDots AL2)
            have h2 := alDots_len HS3.out.le.2
            have h3 := HS3.out.le.1
            have h4 : AL2.length * K2.length ≤ 25 * 25 := Nat.mul_le_mul (by omega) hK2
            omega
          have CS2 := rsameall_eq Al2 Al A8 A7 c8 c7 w14 hE8.at_ (HA13.out.up b8) hal hsh8 hln8
          rw [← hall] at CS2 ⊢
          have CS2 := Lib.hid CS2
          have HB14 := Lib.hid (HB3.out.trans (below_of_le b8 HB3.out.size))
          clear CA2 hE8 he8 b8 hal hall hsh8 hln8 HA13 HB13 HE7
          generalize Al.length = na at *
          go_wp2_with fail
          refine CS2.out.mono ?_; rintro r w15 ⟨rfl, b15⟩
          have HB15 := Lib.hid (HB14.out.trans (below_of_le b15 HB14.out.size))
          have CW1 := Lib.hid (ormwinners_any w15 w2.heap.size m2 kb3 ab3 db3 sv3 sb3 K2 AL2 D2 M2 (HO3.out.up HB15.out) HS3.out (by omega))
          clear CS2 b15 HB14
          go_wp2_with fail
          refine CW1.out.mono ?_; rintro r w16 ⟨A9, c9, Wi, L, rfl, hE9, hL9, hp9, he9, b9⟩
          have HB16 := Lib.hid (HB15.out.trans (below_of_le b9 HB15.out.size))
          have HW9 := Lib.hid (And.intro hE9 (And.intro hL9 (And.intro hp9 he9)))
          have CW2 := Lib.hid (ormwinners_any w16 w1.heap.size m kb' ab' db' sv' sb' K AL D M (HOm.out.up (HCC.out.2.1.trans (below_of_le HB16.out HCC.out.2.2))) HSt.out (by omega))
          generalize hlw : Wi.length = nw at *
          have HLW := Lib.hid hlw
          clear CW1 hE9 hL9 hp9 he9 b9 hlw
          go_wp2_with fail
          refine CW2.out.mono ?_; rintro r w17 ⟨Aa, ca, Wj, L2, rfl, hEa, hLa, hpa, hea, ba⟩
          have hw : eds Wi = eds Wj := by rw [HW9.out.2.2.2, hea, HSO.out.wins HSt.out HS3.out hLa HW9.out.2.1 hpa HW9.out.2.2.1]
          have hwl : Wj.length = Wi.length := by rw [← eds_len, ← hw, eds_len]
          have hshw : Go.Proofs.YtpakmeegldgjmaaGreat.shorts Wi := shorts_of HW9.out.2.2.2 (fun x hx => by
            obtain ⟨k, _, rfl⟩ := List.mem_map.1 hx
            exact winE_short (HS3.out.shorts (fun d hd => alHas_in HS3.out ((mem_alAt _ _ _).1 hd))))
          have hlnw : Wi.length ≤ 1000000 := by
            have h1 := congrArg List.length HW9.out.2.2.2
            have h2 := HW9.out.2.2.1.length_eq
            have h3 := HS3.out.le.1
            rw [eds_len, List.length_map] at h1
            rw [List.length_map] at h2
            omega
          have CS3 := rsameall_eq Wi Wj A9 Aa c9 ca w17 (HW9.out.1.up ba) hEa hw hshw hlnw
          have HB17 := Lib.hid (HB16.out.trans (below_of_le ba HB16.out.size))
          rw [hwl, HLW.out] at CS3 ⊢
          have CS3 := Lib.hid CS3
          clear CW2 hEa hLa hpa hea ba hw hwl hshw hlnw
          go_wp2_with fail
          refine CS3.out.mono ?_; rintro r w18 ⟨rfl, b18⟩
          have HB18 := Lib.hid (HB17.out.trans (below_of_le b18 HB17.out.size))
          clear CS3 b18
          go_wp2_with fail
          refine (C9.out _).mono ?_; rintro r w19 ⟨rfl, b19⟩
          have HR := Lib.hid (show Below w.heap.size w w19 from HBW.out.trans ((below_of_le HCC.out.2.1 HBW.out.size).trans (below_of_le (HB18.out.trans (below_of_le b19 HB18.out.size)) (Nat.le_trans HBW.out.size HCC.out.2.2))))
          clear b19
          go_wp2
          go_ret
          exact ⟨rfl, HR.out⟩
theorem topCarried_law (w : World) {v : Value} {p t : Int} (hv : IsEvs w v) (wp : (Lit.int .u8 p).wf = true) (wt : (Lit.int .u8 t).wf = true) :
    Calls Tryz.prog 4 #[v, .int .u8 p, .int .u8 t] w fun e w' => e = .returned (.bool true) ∧ Below w.heap.size w w' := by
  obtain ⟨A, c, Es, rfl, hl, hc, h3, h4⟩ := hv
  obtain ⟨p0, p1⟩ := bounds_u8 wp
  obtain ⟨t0, t1⟩ := bounds_u8 wt
  have hb : Es.length ≤ 9223372036854775807 := by unfold maxLen at hc; omega
  cases hlg : lgA (eds Es) 25 with
  | false => exact topCarried_far w A c Es p t h3 hb hlg
  | true => exact topCarried_near w A c Es p t h3 hlg p0 (by omega) t0 (by omega)
end Go.Proofs.YtpakmeegldgjmaaGreat
