/- TopCarried: part 6 of what the proof rests on: contracts of functions, and plain laws. -/
import Derived.WalkKit
import Derived.ProofKit
import Derived.OpenShut
import Derived.Handy
import Derived.Outline
import Derived.Lib.Hide
import Derived.Deep.Draws
import Derived.Laws.OwnMore
import Derived.Laws.AppendOwn
import Derived.Laws.AppendOwnNone
import Derived.Laws.BitsAllLaws
import Derived.Laws.Bits64b
import Derived.Lib.AppendZeros
import Derived.Lib.AppendZerosOnto
import Derived.Laws.CopyRow
import Derived.Lib.AppendStr
import Derived.Test.YtpakmeegldgjmaaGreatRows
import Derived.Lib.Zigzag
import Derived.Deep.QuietTactic
import Derived.BigQuiet
import Derived.Deep.LoopGhost
import Derived.BigRegion
import Derived.RegionTactic
import Derived.Deep.WholeRow
import Derived.Deep.Slices
import Derived.Lib.Varint
import Derived.WalkSpells
import Derived.Laws.BytesString
import Derived.Laws.Concat
import Derived.IntWalk
import Derived.Test.YtpakmeegldgjmaaGreatProg
import Derived.Deep.RegionHeld3
import Derived.StillTailTactics
import Derived.Laws.StructEq
import Derived.Lib.SmallJoins
import Derived.Deep.Strs
import Derived.Laws.IdiomStrings
import Derived.Lib.SlBytesConst
import Derived.Deep.RegionWith
import Derived.Maps.Own
import Derived.Maps.OwnSet
import Derived.Maps.Range
import Derived.DeepKeys4
import Derived.ChangeKeysEq
import Derived.DeepKeys2
import Derived.RangeFuncNested
import Derived.RangeFuncBound
import Derived.RangeFuncCalls
import Derived.RangeFuncLeaves
import Derived.Sort.MapsRangeIn
import Derived.OwnWalkIn
import Derived.TacticsInMore
import Derived.RegionIn
import Derived.LoopNIn
import Derived.LoopIn
import Derived.Maps.AppendAt
import Derived.Sort.Grow
import Derived.Shelf.GgSortFunc.InsertionK
import Derived.Shelf.SlSortCmp.NoneTotal
import Derived.WideKeyEntry
import Derived.Deep.CutBlock
import Derived.Deep.CutRange
import Derived.Deep.RegionLaw
import Derived.Deep.DeepCutAuto
import Derived.Deep.DrawnRows
import Derived.WalkLawsBesides
import Derived.Deep.MidRow
import Derived.Laws.Strings2
import Derived.Maps.RangeWalk
import Derived.Lib.Bytealg
import Derived.Test.YtpakmeegldgjmaaGreatKTopCarried05
/- Layer 21 (ormap): New, Dead, Room. -/
namespace Go.Proofs.YtpakmeegldgjmaaGreat
open Go.RowKit
set_option linter.unusedVariables false
set_option linter.unusedSimpArgs false
set_option maxRecDepth 100000
attribute [local go_sem ↓] Go.wp_at_zero Go.wp_at_succ

/-- A new map of events. -/
def NewOm (w : World) (e : Ending) (w' : World) : Prop := ∃ m kb ab db sv sb, e = .returned (.pointer (some ⟨m, 0, none⟩)) ∧ w.heap.size ≤ m ∧ Om w' w.heap.size m kb ab db sv sb [] [] [] [] ∧ Below w.heap.size w w'
theorem ormnew_any (w : World) : Calls Tryz.prog 14 #[] w (NewOm w) := by
  have mk1 : (Instr.makeMap 89 none).run Tryz.prog w = .ok (.map (some w.heap.size)) (w.alloc (.map #[] 0)) := run_makeMap _ _
  have e1 : (w.alloc (.map #[] 0)).heap.size = w.heap.size + 1 := by simp
  have mk2 : (Instr.makeMap 90 none).run Tryz.prog (w.alloc (.map #[] 0)) = .ok (.map (some (w.heap.size + 1))) ((w.alloc (.map #[] 0)).alloc (.map #[] 0)) := by rw [run_makeMap, e1]
  have e2 : ((w.alloc (.map #[] 0)).alloc (.map #[] 0)).heap.size = w.heap.size + 1 + 1 := by simp
  have mk3 : (Instr.makeMap 91 none).run Tryz.prog ((w.alloc (.map #[] 0)).alloc (.map #[] 0)) = .ok (.map (some (w.heap.size + 1 + 1))) (((w.alloc (.map #[] 0)).alloc (.map #[] 0)).alloc (.map #[] 0)) := by rw [run_makeMap, e2]
  have m1 := MapV.made (P := Tryz.prog) (k := 50) (kV := dtV) (ok := dtOk) w
  have m2 := MapV.made (P := Tryz.prog) (k := 54) (kV := kyV) (ok := kyOk) (w.alloc (.map #[] 0))
  have m3 := MapIs.made (P := Tryz.prog) (k := 50) (e := 3) (kV := dtV) (ok := dtOk) ((w.alloc (.map #[] 0)).alloc (.map #[] 0))
  rw [e1] at m2
  rw [e2] at m3
  have hb : Below w.heap.size w (((w.alloc (.map #[] 0)).alloc (.map #[] 0)).alloc (.map #[] 0)) := (((Below.refl _ w).alloc (Nat.le_refl _) _).alloc (by simp) _).alloc (by simp; omega) _
  have H := Lib.hid (And.intro ((m1.alloc (.map #[] 0)).alloc (.map #[] 0)) (And.intro (m2.alloc (.map #[] 0)) (And.intro m3 hb)))
  have CN := Lib.hid (vcnew_any (((w.alloc (.map #[] 0)).alloc (.map #[] 0)).alloc (.map #[] 0)))
  have hsz : (((w.alloc (.map #[] 0)).alloc (.map #[] 0)).alloc (.map #[] 0)).heap.size = w.heap.size + 1 + 1 + 1 := by simp
  clear m1 m2 m3 hb
  go_enter Tryz.func14, Tryz.ntmps14
  go_wp2_with fail
  clear mk1 mk2 mk3
  generalize (((w.alloc (.map #[] 0)).alloc (.map #[] 0)).alloc (.map #[] 0)) = W at *
  rw [hsz] at CN
  refine CN.out.mono ?_; rintro e w1 ⟨rfl, hv1, b1⟩
  obtain ⟨h1, h2, h3, hb⟩ := H.out
  have hlt : w.heap.size + 1 + 1 + 1 + 1 < w1.heap.size := hv1.ltv
  have HE := Lib.hid (show NewOm w (.returned (.pointer (some ⟨w1.heap.size, 0, none⟩))) (w1.alloc (.cells #[.map (some w.heap.size), .map (some (w.heap.size + 1)), .map (some (w.heap.size + 1 + 1)), .pointer (some ⟨w.heap.size + 1 + 1 + 1 + 1, 0, none⟩)] 95)) from
    ⟨w1.heap.size, w.heap.size, w.heap.size + 1, w.heap.size + 1 + 1, w.heap.size + 1 + 1 + 1 + 1, w.heap.size + 1 + 1 + 1, rfl, by omega,
      ⟨Whole.new _ _ _, (h1.below b1 (by omega)).alloc _, (h2.below b1 (by omega)).alloc _, by simp, (h3.below b1 (by omega)).alloc _, hv1.alloc _, by simp, by simp [omBs]; omega, by intro g hg; simp [omBs] at hg; omega⟩,
      (hb.trans (below_of_le b1 (by omega))).alloc (by omega) _⟩)
  clear hv1 b1 h1 h2 h3 hb
  go_wp2
  go_ret
  exact HE.out
section
variable {w w' : World} {N m kb ab db sv sb : Nat} {K : List El} {AL : List (Ky × Nat × List Dt)} {D M : List Dt}
theorem Om.cells (h : Om w N m kb ab db sv sb K AL D M) : w.cell? ⟨m, 0, none⟩ = some (.map (some kb)) ∧ w.cell? ⟨m, 1, none⟩ = some (.map (some ab)) ∧ w.cell? ⟨m, 2, none⟩ = some (.map (some db)) ∧ w.cell? ⟨m, 3, none⟩ = some (.pointer (some ⟨sv, 0, none⟩)) := by
  refine ⟨?_, ?_, ?_, ?_⟩
  all_goals (rw [h.blk.cell]; rfl)
theorem Om.drew (h : Om w N m kb ab db sv sb K AL D M) : Om w.drew N m kb ab db sv sb K AL D M := h.up (Below.refl _ _).drew
theorem Om.lookDead (h : Om w N m kb ab db sv sb K AL D M) {d : Dt} (hd : dtOk d) : ∃ n : Int, (Instr.lookup 91 (.map (some db)) (dtV d) true).run Tryz.prog w = .ok (.tuple #[.int .i64 n, .bool (decide (d ∈ D))]) w := by
  have := h.dead.lookup_ok dot_key Tryz.underlying91 Tryz.underlying3 (Tryz.zeroValue3 _) hd
  rw [ones_has] at this
  exact ⟨_, this⟩
end
set_option maxHeartbeats 1000000 in
theorem ormdead_any (w : World) (N m kb ab db sv sb : Nat) (K : List El) (AL : List (Ky × Nat × List Dt)) (D M : List Dt) (h : Om w N m kb ab db sv sb K AL D M) (x : Dt) (ok : dtOk x) :
    Calls Tryz.prog 49 #[.pointer (some ⟨m, 0, none⟩), dtV x] w fun e w' => e = .returned (.bool (decide (x ∈ D))) ∧ Below w.heap.size w w' := by
  have B0 := (Below.refl w.heap.size w).alloc (Nat.le_refl _) (.cells #[.int .i64 x.1.1, .int .i64 x.1.2, .int .i64 x.2] 50)
  obtain ⟨n, lk⟩ := (h.up B0).drew.lookDead ok
  have hc := (h.up B0).drew.cells
  have hk := C3.new w x.1.1 x.1.2 x.2 50
  have H := Lib.hid (And.intro hc.2.2.1 (And.intro hk (And.intro lk B0)))
  clear h hc hk lk B0
  generalize decide (x ∈ D) = r at *
  obtain ⟨⟨d, i⟩, s⟩ := x
  unfold dtV at H ⊢
  simp only at H ⊢
  go_enter Tryz.func49, Tryz.ntmps49
  go_wp2_with fail
  generalize hN : w.heap.size = B at *
  generalize (w.alloc (.cells #[.int .i64 d, .int .i64 i, .int .i64 s] 50)) = W at *
  have HN := Lib.hid hN
  clear hN
  refine wp_region_held_drew (S := (fun W => W.cell? ⟨m, 2, none⟩ = some (.map (some db)) ∧ W.cell? ⟨B, 0, none⟩ = some (.int .i64 d) ∧ W.cell? ⟨B, 1, none⟩ = some (.int .i64 i) ∧ W.cell? ⟨B, 2, none⟩ = some (.int .i64 s) ∧ (Instr.lookup 91 (.map (some db)) (.agg #[.int .i64 d, .int .i64 i, .int .i64 s]) true).run Tryz.prog W = .ok (.tuple #[.int .i64 n, .bool r]) W)) (by kernel_rfl) ?_ (fun hHeld => ?_)
  · (try dsimp only); exact ⟨H.out.1, H.out.2.1.1, H.out.2.1.2.1, H.out.2.1.2.2, H.out.2.2.1⟩
  refine wpAnyH_take (i := 0) (v := ?_) rfl (by kernel_rfl) (by kernel_rfl) (by kernel_rfl) (fun _ _ _ h => h) (Or.inl ⟨by rfl, ?_⟩) (by assumption) ?_
  rotate_left
  first | (focus ((intro w hSw; (try dsimp only at hSw); go_simp); (try with_reducible rfl); done)) | fail
  try simp only [Act.put, List.getElem_toArray, List.getElem_cons_zero, List.setIfInBounds_toArray, List.set_cons_zero, List.set_cons_succ]
  refine wpAnyH_take (i := 1) (v := ?_) rfl (by kernel_rfl) (by kernel_rfl) (by kernel_rfl) (fun _ _ _ h => h) (Or.inl ⟨by rfl, ?_⟩) (by assumption) ?_
  rotate_left
  first | (focus ((intro w hSw; (try dsimp only at hSw); go_simp); (try with_reducible rfl); done)) | fail
  try simp only [Act.put, List.getElem_toArray, List.getElem_cons_zero, List.getElem_cons_succ, List.setIfInBounds_toArray, List.set_cons_zero, List.set_cons_succ]
  refine wpAnyH_take (i := 2) (v := ?_) rfl (by kernel_rfl) (by kernel_rfl) (by kernel_rfl) (fun _ _ _ h => h) (Or.inl ⟨by rfl, ?_⟩) (by assumption) ?_
  rotate_left
  first | (focus ((intro w hSw; (try dsimp only at hSw); go_simp); (try with_reducible rfl); done)) | fail
  try simp only [Act.put, List.getElem_toArray, List.getElem_cons_zero, List.getElem_cons_succ, List.setIfInBounds_toArray, List.set_cons_zero, List.set_cons_succ]
  refine wpAnyH_take (i := 3) (v := ?_) rfl (by kernel_rfl) (by kernel_rfl) (by kernel_rfl) (fun _ _ _ h => h) (Or.inl ⟨by rfl, ?_⟩) (by assumption) ?_
  rotate_left
  first | (focus ((intro w hSw; (try dsimp only at hSw); go_simp); (try with_reducible rfl); done)) | fail
  try simp only [Act.put, List.getElem_toArray, List.getElem_cons_zero, List.getElem_cons_succ, List.setIfInBounds_toArray, List.set_cons_zero, List.set_cons_succ]
  refine wpAnyH_take (i := 4) (v := ?_) rfl (by kernel_rfl) (by kernel_rfl) (by kernel_rfl) (fun _ _ _ h => h) (Or.inl ⟨by rfl, ?_⟩) (by assumption) ?_
  rotate_left
  first | (focus ((intro w hSw; (try dsimp only at hSw); go_simp); (try with_reducible rfl); done)) | fail
  try simp only [Act.put, List.getElem_toArray, List.getElem_cons_zero, List.getElem_cons_succ, List.setIfInBounds_toArray, List.set_cons_zero, List.set_cons_succ]
  refine wpAnyH_take (i := 5) (v := ?_) rfl (by kernel_rfl) (by kernel_rfl) (by kernel_rfl) (fun _ _ _ h => h) (Or.inl ⟨by rfl, ?_⟩) (by assumption) ?_
  rotate_left
  first | (focus ((intro w hSw; (try dsimp only at hSw); go_simp); (try with_reducible rfl); done)) | fail
  try simp only [Act.put, List.getElem_toArray, List.getElem_cons_zero, List.getElem_cons_succ, List.setIfInBounds_toArray, List.set_cons_zero, List.set_cons_succ]
  refine wpAnyH_take (i := 6) (v := ?_) rfl (by kernel_rfl) (by kernel_rfl) (by kernel_rfl) (fun _ _ _ h => h) (Or.inl ⟨by rfl, ?_⟩) (by assumption) ?_
  rotate_left
  first | (focus ((intro w hSw; (try dsimp only at hSw); go_simp); (try with_reducible rfl); done)) | fail
  try simp only [Act.put, List.getElem_toArray, List.getElem_cons_zero, List.getElem_cons_succ, List.setIfInBounds_toArray, List.set_cons_zero, List.set_cons_succ]
  refine wpAnyH_take (i := 7) (v := ?_) rfl (by kernel_rfl) (by kernel_rfl) (by kernel_rfl) (fun _ _ _ h => h) (Or.inl ⟨by rfl, ?_⟩) (by assumption) ?_
  rotate_left
  first | (focus ((intro w hSw; (try dsimp only at hSw); go_simp); (try with_reducible rfl); done)) | fail
  try simp only [Act.put, List.getElem_toArray, List.getElem_cons_zero, List.getElem_cons_succ, List.setIfInBounds_toArray, List.set_cons_zero, List.set_cons_succ]
  refine wpAnyH_take (i := 8) (v := ?_) rfl (by kernel_rfl) (by kernel_rfl) (by kernel_rfl) (fun _ _ _ h => h) (Or.inl ⟨by rfl, ?_⟩) (by assumption) ?_
  rotate_left
  first | (focus ((intro w hSw; (try dsimp only at hSw); go_simp); (try with_reducible rfl); done)) | fail
  try simp only [Act.put, List.getElem_toArray, List.getElem_cons_zero, List.getElem_cons_succ, List.setIfInBounds_toArray, List.set_cons_zero, List.set_cons_succ]
  refine wpAnyH_take (i := 9) (v := ?_) rfl (by kernel_rfl) (by kernel_rfl) (by kernel_rfl) (fun _ _ _ h => h) (Or.inl ⟨by rfl, ?_⟩) (by assumption) ?_
  rotate_left
  first | (focus ((intro w hSw; (try dsimp only at hSw); go_simp); (try with_reducible rfl); done)) | fail
  try simp only [Act.put, List.getElem_toArray, List.getElem_cons_zero, List.getElem_cons_succ, List.setIfInBounds_toArray, List.set_cons_zero, List.set_cons_succ]
  refine wpAnyH_take (i := 10) (v := ?_) rfl (by kernel_rfl) (by kernel_rfl) (by kernel_rfl) (fun _ _ _ h => h) (Or.inl ⟨by rfl, ?_⟩) (by assumption) ?_
  rotate_left
  first | (focus ((intro w hSw; (try dsimp only at hSw); go_simp); (try with_reducible rfl); done)) | fail
  try simp only [Act.put, List.getElem_toArray, List.getElem_cons_zero, List.getElem_cons_succ, List.setIfInBounds_toArray, List.set_cons_zero, List.set_cons_succ]
  refine wpAnyH_done (by kernel_rfl) ?_ _
  go_wp2
  go_ret
  exact ⟨rfl, by rw [HN.out]; exact H.out.2.2.2.drew⟩
theorem ormroom_any (w : World) (N m kb ab db sv sb : Nat) (K : List El) (AL : List (Ky × Nat × List Dt)) (D M : List Dt) (h : Om w N m kb ab db sv sb K AL D M) (hK : K.length ≤ 1000) :
    Calls Tryz.prog 46 #[.pointer (some ⟨m, 0, none⟩), .int .i64 1] w fun e w' => e = .returned (.bool true) ∧ w = w' := by
  have hl := h.kept.len_ Tryz.underlying89 3
  have hc := h.cells.1
  rw [show (keptV K).length = K.length by simp [keptV]] at hl
  generalize K.length = n at *
  have t1 : decide ((1 : Int) ≤ 2048 - (n : Int)) = true := decide_eq_true (by omega)
  clear h
  go_enter Tryz.func46, Tryz.ntmps46
  go_wp2
  go_ret
  exact ⟨rfl, rfl⟩
end Go.Proofs.YtpakmeegldgjmaaGreat
/- Layer 21 (ormap): live. -/
namespace Go.Proofs.YtpakmeegldgjmaaGreat
open Go.RowKit
set_option linter.unusedVariables false
set_option linter.unusedSimpArgs false
set_option maxRecDepth 100000
attribute [local go_sem ↓] Go.wp_at_zero Go.wp_at_succ

/-- Has a key's set a dot? -/
def alHas (AL : List (Ky × Nat × List Dt)) (ky : Ky) (d : Dt) : Prop := ∃ p ∈ AL, p.1 = ky ∧ d ∈ p.2.2
/-- No set is empty. -/
def alNE (AL : List (Ky × Nat × List Dt)) : Prop := ∀ p ∈ AL, p.2.2 ≠ []
/-- How many dots there are at most. -/
def alLe (AL : List (Ky × Nat × List Dt)) (n : Nat) : Prop := AL.length ≤ n ∧ ∀ p ∈ AL, p.2.2.length ≤ n
/-- An event's key. -/
def kyE (e : Ed) : Ky := (e.name, e.dom, e.path)
theorem LvS.of {m ab kb db sv E : Nat} {x : El} {W : World} (h1 : Whole W m 95 #[.map (some kb), .map (some ab), .map (some db), .pointer (some ⟨sv, 0, none⟩)]) (h2 : Whole W E 59 (evA x.e x.A x.c)) : W.cell? ⟨m, 1, none⟩ = some (.map (some ab)) ∧ W.cell? ⟨E, 0, none⟩ = some (.int .i64 x.e.dot.1.1) ∧ W.cell? ⟨E, 1, none⟩ = some (.int .i64 x.e.dot.1.2) ∧ W.cell? ⟨E, 2, none⟩ = some (.int .i64 x.e.dot.2) ∧ W.cell? ⟨E, 7, none⟩ = some (.string (bs x.e.name)) ∧ W.cell? ⟨E, 8, none⟩ = some (.string (bs x.e.dom)) ∧ W.cell? ⟨E, 9, none⟩ = some (.string (bs x.e.path)) := by
  refine ⟨?_, ?_, ?_, ?_, ?_, ?_, ?_⟩
  all_goals first | (rw [h1.cell]; rfl) | (rw [h2.cell]; rfl)
section
variable {w w' : World} {N m kb ab db sv sb : Nat} {K : List El} {AL : List (Ky × Nat × List Dt)} {D M : List Dt}
theorem Om.look_yes (h : Om w N m kb ab db sv sb K AL D M) {p : Ky × Nat × List Dt} (hp : p ∈ AL) : (Instr.lookup 90 (.map (some ab)) (kyV p.1) false).run Tryz.prog w = .ok (.map (some p.2.1)) w := by
  have hm : ((p.1, Value.map (some p.2.1)) : Ky × Value) ∈ aliveV AL := List.mem_map.2 ⟨p, hp, rfl⟩
  have := h.alive.lookup key_key Tryz.underlying90 (Tryz.zeroValue91 _) (h.alive.2.2 _ hm)
  rw [mvget_mem _ h.alive.2.1 hm] at this
  exact this
theorem Om.look_no (h : Om w N m kb ab db sv sb K AL D M) {ky : Ky} (ok : kyOk ky) (hn : ∀ p ∈ AL, p.1 ≠ ky) : (Instr.lookup 90 (.map (some ab)) (kyV ky) false).run Tryz.prog w = .ok (.map none) w := by
  have := h.alive.lookup key_key Tryz.underlying90 (Tryz.zeroValue91 _) ok
  have hh : ky ∉ (aliveV AL).map (·.1) := by
    intro hm
    obtain ⟨q, hq, e⟩ := List.mem_map.1 hm
    obtain ⟨p, hp, rfl⟩ := List.mem_map.1 hq
    exact hn p hp e
  rw [mvget_none _ hh] at this
  exact this
/-- A dot more in a key's set. -/
theorem Om.put (h : Om w N m kb ab db sv sb K AL D M) {A1 A2 : List (Ky × Nat × List Dt)} {p : Ky × Nat × List Dt} (hA : AL = A1 ++ p :: A2) {d : Dt} (ok : dtOk d) (hl : p.2.2.length ≤ 1000000) :
    ∃ w', (Instr.mapUpdate 91 (.map (some p.2.1)) (dtV d) (.int .i64 1)).run Tryz.prog w = .ok () w' ∧ Om w' N m kb ab db sv sb K (A1 ++ (p.1, p.2.1, d :: p.2.2.filter fun y => decide (y ≠ d)) :: A2) D M ∧ Ch (fun k => k = p.2.1) w w' := by
  have hp : p ∈ AL := by rw [hA]; simp
  obtain ⟨w', q, hm, hg⟩ := (h.inner p hp).update dot_key Tryz.underlying91 Tryz.underlying3 (by rw [ones_len]; unfold maxLen; omega) ok (n := 1) (by decide) (W' := ones (d :: p.2.2.filter fun y => decide (y ≠ d))) (by
    have e : ones (d :: p.2.2.filter fun y => decide (y ≠ d)) = (d, 1) :: ones (p.2.2.filter fun y => decide (y ≠ d)) := rfl
    rw [e, ← ones_filter p.2.2 (fun y => decide (y ≠ d))])
  have hc : Ch (fun k => k = p.2.1) w w' := (grown_ch hg).mono fun k _ hk => by injection hk
  exact ⟨w', q, h.setInner hA hc hm, hc⟩
/-- A key more, its set empty, in a block that was just made. -/
theorem Om.newKey (h : Om w N m kb ab db sv sb K AL D M) {ky : Ky} (ok : kyOk ky) (hn : ∀ p ∈ AL, p.1 ≠ ky) (hN : N ≤ w.heap.size) (hl : AL.length ≤ 1000000) :
    ∃ w', (Instr.mapUpdate 90 (.map (some ab)) (kyV ky) (.map (some w.heap.size))).run Tryz.prog (w.alloc (.map #[] 0)) = .ok () w' ∧ Om w' N m kb ab db sv sb K ([] ++ (ky, w.heap.size, []) :: AL) D M ∧ Ch (fun k => k = ab) (w.alloc (.map #[] 0)) w' := by
  have h0 := h.up ((Below.refl w.heap.size w).alloc (Nat.le_refl _) (.map #[] 0))
  have hm0 := MapIs.made (P := Tryz.prog) (k := 50) (e := 3) (kV := dtV) (ok := dtOk) w
  have hlt : ∀ g ∈ omBs kb ab db sb AL, g < w.heap.size := fun g hg => (h.mapB g hg).lt
  have hf : (aliveV AL).filter (fun p => decide (p.1 ≠ ky)) = aliveV AL := by
    rw [List.filter_eq_self]
    intro q hq
    obtain ⟨p, hp, rfl⟩ := List.mem_map.1 hq
    exact decide_eq_true (hn p hp)
  obtain ⟨w', q, hm, hg⟩ := h0.alive.update key_key Tryz.underlying90 (by unfold aliveV; rw [List.length_map]; unfold maxLen; omega) ok (.map (some w.heap.size)) (W' := aliveV ((ky, w.heap.size, []) :: AL)) (by rw [hf]; exact List.Perm.refl _)
  have hc : Ch (fun k => k = ab) (w.alloc (.map #[] 0)) w' := (grown_ch hg).mono fun k _ hk => by injection hk
  refine ⟨w', q, h0.setAlive hc hm (fun p hp => ?_) ?_ (fun g hg => ?_), hc⟩
  · rcases List.mem_cons.1 hp with rfl | hp
    · exact hm0
    · exact h0.inner p hp
  · have hnd := h.nd
    have hnew : w.heap.size ∉ omBs kb ab db sb AL := fun hm => absurd (hlt _ hm) (by omega)
    unfold omBs at hnd hnew ⊢
    simp only [List.nil_append, List.map_cons, List.nodup_cons, List.mem_cons, not_or] at hnd hnew ⊢
    obtain ⟨⟨a1, a2, a3, a4⟩, ⟨b1, b2, b3⟩, ⟨c1, c2⟩, d1, d2⟩ := hnd
    obtain ⟨n1, n2, n3, n4, n5⟩ := hnew
    exact ⟨⟨a1, a2, a3, fun e => n1 e.symm, a4⟩, ⟨b1, b2, fun e => n2 e.symm, b3⟩, ⟨c1, fun e => n3 e.symm, c2⟩, ⟨fun e => n4 e.symm, d1⟩, n5, d2⟩
  · have hlo := h.lo
    unfold omBs at hg hlo
    simp only [List.nil_append, List.map_cons, List.mem_cons] at hg hlo
    rcases hg with rfl | rfl | rfl | rfl | rfl | hg
    · exact hlo _ (.inl rfl)
    · exact hlo _ (.inr (.inl rfl))
    · exact hlo _ (.inr (.inr (.inl rfl)))
    · exact hlo _ (.inr (.inr (.inr (.inl rfl))))
    · exact hN
    · exact hlo _ (.inr (.inr (.inr (.inr hg))))
end
/-- What live leaves. -/
def LiveE (w : World) (N m kb ab db sv sb : Nat) (K : List El) (AL : List (Ky × Nat × List Dt)) (D M : List Dt) (ky : Ky) (d : Dt) (n : Nat) (e : Ending) (w' : World) : Prop :=
  e = .returned (.tuple #[]) ∧ ∃ AL', Om w' N m kb ab db sv sb K AL' D M ∧ alNE AL' ∧ alLe AL' (n + 1) ∧ (∀ ky' d', alHas AL' ky' d' ↔ alHas AL ky' d' ∨ (ky' = ky ∧ d' = d)) ∧ Ch (fun k => k ∈ omBs kb ab db sb AL) w w'
theorem alHas_put {A1 A2 : List (Ky × Nat × List Dt)} {p : Ky × Nat × List Dt} {d : Dt} (ky' : Ky) (d' : Dt) : alHas (A1 ++ (p.1, p.2.1, d :: p.2.2.filter fun y => decide (y ≠ d)) :: A2) ky' d' ↔ alHas (A1 ++ p :: A2) ky' d' ∨ (ky' = p.1 ∧ d' = d) := by
  unfold alHas
  constructor
  · rintro ⟨q, hq, rfl, hd⟩
    rcases List.mem_append.1 hq with hq | hq
    · exact .inl ⟨q, List.mem_append_left _ hq, rfl, hd⟩
    · rcases List.mem_cons.1 hq with rfl | hq
      · simp only [List.mem_cons, List.mem_filter] at hd
        rcases hd with rfl | ⟨hd, _⟩
        · exact .inr ⟨rfl, rfl⟩
        · exact .inl ⟨p, by simp, rfl, hd⟩
      · exact .inl ⟨q, List.mem_append_right _ (List.mem_cons_of_mem _ hq), rfl, hd⟩
  · rintro (⟨q, hq, rfl, hd⟩ | ⟨rfl, rfl⟩)
    · rcases List.mem_append.1 hq with hq | hq
      · exact ⟨q, List.mem_append_left _ hq, rfl, hd⟩
      · rcases List.mem_cons.1 hq with rfl | hq
        · refine ⟨_, List.mem_append_right _ (List.mem_cons_self ..), rfl, ?_⟩
          simp only [List.mem_cons, List.mem_filter]
          by_cases e : d' = d
          · exact .inl e
          · exact .inr ⟨hd, decide_eq_true e⟩
        · exact ⟨q, List.mem_append_right _ (List.mem_cons_of_mem _ hq), rfl, hd⟩
    · exact ⟨_, List.mem_append_right _ (List.mem_cons_self ..), rfl, List.mem_cons_self ..⟩
theorem alHas_new {AL : List (Ky × Nat × List Dt)} {ky : Ky} {g : Nat} (ky' : Ky) (d' : Dt) : alHas ([] ++ (ky, g, []) :: AL) ky' d' ↔ alHas AL ky' d' := by
  unfold alHas
  constructor
  · rintro ⟨q, hq, rfl, hd⟩
    rcases List.mem_cons.1 hq with rfl | hq
    · simp at hd
    · exact ⟨q, hq, rfl, hd⟩
  · rintro ⟨q, hq, rfl, hd⟩
    exact ⟨q, List.mem_cons_of_mem _ hq, rfl, hd⟩
set_option maxHeartbeats 4000000 in
theorem ormlive_any (w : World) (N m kb ab db sv sb : Nat) (K : List El) (AL : List (Ky × Nat × List Dt)) (D M : List Dt) (h : Om w N m kb ab db sv sb K AL D M) (x : El) (okd : dtOk x.e.dot) (okk : kyOk (kyE x.e)) (hne : alNE AL) (n : Nat) (hn : n ≤ 1000) (hle : alLe AL n) (hN : N ≤ w.heap.size) :
    Calls Tryz.prog 50 #[.pointer (some ⟨m, 0, none⟩), .agg (evA x.e x.A x.c)] w (LiveE w N m kb ab db sv sb K AL D M (kyE x.e) x.e.dot n) := by
  have B0 := (Below.refl w.heap.size w).alloc (Nat.le_refl _) (.cells (evA x.e x.A x.c) 59)
  have HO := Lib.hid (h.up B0)
  have HW := Lib.hid (Whole.new w 59 (evA x.e x.A x.c))
  have HB := Lib.hid (show Ch (fun k => k ∈ omBs kb ab db sb AL) w _ from below_ch B0)
  have qN := fun (u : World) => run_eql_map_nil (P := Tryz.prog) u 91 50 3 none Tryz.underlying91
  have qS := fun (u : World) (g : Nat) => run_eql_map_nil (P := Tryz.prog) u 91 50 3 (some g) Tryz.underlying91
  simp only [Option.isNone] at qN qS
  have HQ := Lib.hid (And.intro qN qS)
  have HND := Lib.hid hne
  have HLE := Lib.hid hle
  have hN' : N ≤ (w.alloc (.cells (evA x.e x.A x.c) 59)).heap.size := by simp; omega
  have hlt : w.heap.size < (w.alloc (.cells (evA x.e x.A x.c) 59)).heap.size := by simp
  clear h B0 qN qS hne hle hN
  generalize hW : w.alloc (.cells (evA x.e x.A x.c) 59) = W at *
  have HWW := Lib.hid hW
  clear hW
  by_cases hk : ∃ p ∈ AL, p.1 = kyE x.e
  · obtain ⟨p, hp, hpk⟩ := hk
    obtain ⟨A1, A2, hA⟩ := List.append_of_mem hp
    have lk1 : (Instr.lookup 90 (.map (some ab)) (.agg #[.string (bs x.e.name), .string (bs x.e.dom), .string (bs x.e.path)]) false).run Tryz.prog W.drew = .ok (.map (some p.2.1)) W.drew := by have := HO.out.drew.look_yes hp; rw [hpk] at this; exact this
    have lk2 : (Instr.lookup 90 (.map (some ab)) (.agg #[.string (bs x.e.name), .string (bs x.e.dom), .string (bs x.e.path)]) false).run Tryz.prog W.drew.drew = .ok (.map (some p.2.1)) W.drew.drew := by have := HO.out.drew.drew.look_yes hp; rw [hpk] at this; exact this
    obtain ⟨w', q, ho, hc⟩ := HO.out.drew.drew.put hA okd (by have := HLE.out.2 p hp; omega)
    have q : (Instr.mapUpdate 91 (.map (some p.2.1)) (.agg #[.int .i64 x.e.dot.1.1, .int .i64 x.e.dot.1.2, .int .i64 x.e.dot.2]) (.int .i64 1)).run Tryz.prog W.drew.drew = .ok () w' := q
    have HE := Lib.hid (show LiveE w N m kb ab db sv sb K AL D M (kyE x.e) x.e.dot n (.returned (.tuple #[])) w' from by
      refine ⟨rfl, _, ho, ?_, ?_, ?_, HB.out.drew.drew.trans hc (fun k hk e => ?_)⟩
      · intro r hr
        rcases List.mem_append.1 hr with hr | hr
        · exact HND.out r (by rw [hA]; exact List.mem_append_left _ hr)
        · rcases List.mem_cons.1 hr with rfl | hr
          · simp
          · exact HND.out r (by rw [hA]; exact List.mem_append_right _ (List.mem_cons_of_mem _ hr))
      · have hl := HLE.out.1
        rw [hA] at hl
        refine ⟨by simp at hl ⊢; omega, fun r hr => ?_⟩
        rcases List.mem_append.1 hr with hr | hr
        · have := HLE.out.2 r (by rw [hA]; exact List.mem_append_left _ hr); omega
        · rcases List.mem_cons.1 hr with rfl | hr
          · have h1 := HLE.out.2 p hp
            have h2 := List.length_filter_le (fun y => decide (y ≠ x.e.dot)) p.2.2
            simp only [List.length_cons]
            omega
          · have := HLE.out.2 r (by rw [hA]; exact List.mem_append_right _ (List.mem_cons_of_mem _ hr)); omega
      · intro ky' d'
        rw [alHas_put ky' d', ← hA, hpk]
      · have e : k = p.2.1 := e
        subst e
        exact Om.mem_in hp)
    have HS2 := Lib.hid (LvS.of ho.blk (HW.out.drew.drew.ch hc (fun e => (HO.out.mapB _ (Om.mem_in hp)).neWhole HW.out e)))
    have qE := HQ.out.2
    clear ho hc hpk hA HND HLE
    go_enter Tryz.func50, Tryz.ntmps50
    go_wp2_with fail
    rw [HWW.out]
    generalize w.heap.size = E at *
    refine wp_region_held_drew (S := (fun W => W.cell? ⟨m, 1, none⟩ = some (.map (some ab)) ∧ W.cell? ⟨E, 0, none⟩ = some (.int .i64 x.e.dot.1.1) ∧ W.cell? ⟨E, 1, none⟩ = some (.int .i64 x.e.dot.1.2) ∧ W.cell? ⟨E, 2, none⟩ = some (.int .i64 x.e.dot.2) ∧ W.cell? ⟨E, 7, none⟩ = some (.string (bs x.e.name)) ∧ W.cell? ⟨E, 8, none⟩ = some (.string (bs x.e.dom)) ∧ W.cell? ⟨E, 9, none⟩ = some (.string (bs x.e.path)))) (by kernel_rfl) ?_ (fun hHeld => ?_)
    · (try dsimp only); exact LvS.of HO.out.drew.blk HW.out.drew
    refine wpAnyH_take (i := 0) (v := ?_) rfl (by kernel_rfl) (by kernel_rfl) (by kernel_rfl) (fun _ _ _ h => h) (Or.inl ⟨by rfl, ?_⟩) (by assumption) ?_
    rotate_left
    first | (focus ((intro w hSw; (try dsimp only at hSw); go_simp); (try with_reducible rfl); done)) | fail
    try simp only [Act.put, List.getElem_toArray, List.getElem_cons_zero, List.setIfInBounds_toArray, List.set_cons_zero, List.set_cons_succ]
    refine wpAnyH_take (i := 1) (v := ?_) rfl (by kernel_rfl) (by kernel_rfl) (by kernel_rfl) (fun _ _ _ h => h) (Or.inl ⟨by rfl, ?_⟩) (by assumption) ?_
    rotate_left
    first | (focus ((intro w hSw; (try dsimp only at hSw); go_simp); (try with_reducible rfl); done)) | fail
    try simp only [Act.put, List.getElem_toArray, List.getElem_cons_zero, List.getElem_cons_succ, List.setIfInBounds_toArray, List.set_cons_zero, List.set_cons_succ]
    refine wpAnyH_take (i := 2) (v := ?_) rfl (by kernel_rfl) (by kernel_rfl) (by kernel_rfl) (fun _ _ _ h => h) (Or.inl ⟨by rfl, ?_⟩) (by assumption) ?_
    rotate_left
    first | (focus ((intro w hSw; (try dsimp only at hSw); go_simp); (try with_reducible rfl); done)) | fail
    try simp only [Act.put, List.getElem_toArray, List.getElem_cons_zero, List.getElem_cons_succ, List.setIfInBounds_toArray, List.set_cons_zero, List.set_cons_succ]
    refine wpAnyH_take (i := 3) (v := ?_) rfl (by kernel_rfl) (by kernel_rfl) (by kernel_rfl) (fun _ _ _ h => h) (Or.inl ⟨by rfl, ?_⟩) (by assumption) ?_
    rotate_left
    first | (focus ((intro w hSw; (try dsimp only at hSw); go_simp); (try with_reducible rfl); done)) | fail
    try simp only [Act.put, List.getElem_toArray, List.getElem_cons_zero, List.getElem_cons_succ, List.setIfInBounds_toArray, List.set_cons_zero, List.set_cons_succ]
    refine wpAnyH_take (i := 4) (v := ?_) rfl (by kernel_rfl) (by kernel_rfl) (by kernel_rfl) (fun _ _ _ h => h) (Or.inl ⟨by rfl, ?_⟩) (by assumption) ?_
    rotate_left
    first | (focus ((intro w hSw; (try dsimp only at hSw); go_simp); (try with_reducible rfl); done)) | fail
    try simp only [Act.put, List.getElem_toArray, List.getElem_cons_zero, List.getElem_cons_succ, List.setIfInBounds_toArray, List.set_cons_zero, List.set_cons_succ]
    refine wpAnyH_take (i := 5) (v := ?_) rfl (by kernel_rfl) (by kernel_rfl) (by kernel_rfl) (fun _ _ _ h => h) (Or.inl ⟨by rfl, ?_⟩) (by assumption) ?_
    rotate_left
    first | (focus ((intro w hSw; (try dsimp only at hSw); go_simp); (try with_reducible rfl); done)) | fail
    try simp only [Act.put, List.getElem_toArray, List.getElem_cons_zero, List.getElem_cons_succ, List.setIfInBounds_toArray, List.set_cons_zero, List.set_cons_succ]
    refine wpAnyH_ready (rs := [6]) (by kernel_rfl) (by simp) ?_
    refine AllReadyH.cons rfl (fun K hK => ?_) AllReadyH.nil
    go_simp
    refine hK.out _ _ ?_ (fun hHeld => ?_)
    · (try dsimp only); exact LvS.of HO.out.drew.blk HW.out.drew
    clear hK K
    try simp only [Act.put, List.getElem_toArray, List.getElem_cons_zero, List.getElem_cons_succ, List.setIfInBounds_toArray, List.set_cons_zero, List.set_cons_succ]
    refine wpAnyH_take (i := 7) (v := ?_) rfl (by kernel_rfl) (by kernel_rfl) (by kernel_rfl) (fun _ _ _ h => h) (Or.inl ⟨by rfl, ?_⟩) (by assumption) ?_
    rotate_left
    first | (focus ((intro w hSw; (try dsimp only at hSw); go_simp); (try with_reducible rfl); done)) | fail
    try simp only [Act.put, List.getElem_toArray, List.getElem_cons_zero, List.getElem_cons_succ, List.setIfInBounds_toArray, List.set_cons_zero, List.set_cons_succ]
    refine wpAnyH_done (by kernel_rfl) ?_ _
    go_wp2_with fail
    refine wp_region_held_drew (S := (fun W => W.cell? ⟨m, 1, none⟩ = some (.map (some ab)) ∧ W.cell? ⟨E, 0, none⟩ = some (.int .i64 x.e.dot.1.1) ∧ W.cell? ⟨E, 1, none⟩ = some (.int .i64 x.e.dot.1.2) ∧ W.cell? ⟨E, 2, none⟩ = some (.int .i64 x.e.dot.2) ∧ W.cell? ⟨E, 7, none⟩ = some (.string (bs x.e.name)) ∧ W.cell? ⟨E, 8, none⟩ = some (.string (bs x.e.dom)) ∧ W.cell? ⟨E, 9, none⟩ = some (.string (bs x.e.path)))) (by kernel_rfl) ?_ (fun hHeld => ?_)
    · (try dsimp only); exact LvS.of HO.out.drew.drew.blk HW.out.drew.drew
    refine wpAnyH_take (i := 0) (v := ?_) rfl (by kernel_rfl) (by kernel_rfl) (by kernel_rfl) (fun _ _ _ h => h) (Or.inl ⟨by rfl, ?_⟩) (by assumption) ?_
    rotate_left
    first | (focus ((intro w hSw; (try dsimp only at hSw); go_simp); (try with_reducible rfl); done)) | fail
    try simp only [Act.put, List.getElem_toArray, List.getElem_cons_zero, List.setIfInBounds_toArray, List.set_cons_zero, List.set_cons_succ]
    refine wpAnyH_take (i := 1) (v := ?_) rfl (by kernel_rfl) (by kernel_rfl) (by kernel_rfl) (fun _ _ _ h => h) (Or.inl ⟨by rfl, ?_⟩) (by assumption) ?_
    rotate_left
    first | (focus ((intro w hSw; (try dsimp only at hSw); go_simp); (try with_reducible rfl); done)) | fail
    try simp only [Act.put, List.getElem_toArray, List.getElem_cons_zero, List.getElem_cons_succ, List.setIfInBounds_toArray, List.set_cons_zero, List.set_cons_succ]
    refine wpAnyH_take (i := 2) (v := ?_) rfl (by kernel_rfl) (by kernel_rfl) (by kernel_rfl) (fun _ _ _ h => h) (Or.inl ⟨by rfl, ?_⟩) (by assumption) ?_
    rotate_left
    first | (focus ((intro w hSw; (try dsimp only at hSw); go_simp); (try with_reducible rfl); done)) | fail
    try simp only [Act.put, List.getElem_toArray, List.getElem_cons_zero, List.getElem_cons_succ, List.setIfInBounds_toArray, List.set_cons_zero, List.set_cons_succ]
    refine wpAnyH_take (i := 3) (v := ?_) rfl (by kernel_rfl) (by kernel_rfl) (by kernel_rfl) (fun _ _ _ h => h) (Or.inl ⟨by rfl, ?_⟩) (by assumption) ?_
    rotate_left
    first | (focus ((intro w hSw; (try dsimp only at hSw); go_simp); (try with_reducible rfl); done)) | fail
    try simp only [Act.put, List.getElem_toArray, List.getElem_cons_zero, List.getElem_cons_succ, List.setIfInBounds_toArray, List.set_cons_zero, List.set_cons_succ]
    refine wpAnyH_take (i := 4) (v := ?_) rfl (by kernel_rfl) (by kernel_rfl) (by kernel_rfl) (fun _ _ _ h => h) (Or.inl ⟨by rfl, ?_⟩) (by assumption) ?_
    rotate_left
    first | (focus ((intro w hSw; (try dsimp only at hSw); go_simp); (try with_reducible rfl); done)) | fail
    try simp only [Act.put, List.getElem_toArray, List.getElem_cons_zero, List.getElem_cons_succ, List.setIfInBounds_toArray, List.set_cons_zero, List.set_cons_succ]
    refine wpAnyH_take (i := 5) (v := ?_) rfl (by kernel_rfl) (by kernel_rfl) (by kernel_rfl) (fun _ _ _ h => h) (Or.inl ⟨by rfl, ?_⟩) (by assumption) ?_
    rotate_left
    first | (focus ((intro w hSw; (try dsimp only at hSw); go_simp); (try with_reducible rfl); done)) | fail
    try simp only [Act.put, List.getElem_toArray, List.getElem_cons_zero, List.getElem_cons_succ, List.setIfInBounds_toArray, List.set_cons_zero, List.set_cons_succ]
    refine wpAnyH_take (i := 7) (v := ?_) rfl (by kernel_rfl) (by kernel_rfl) (by kernel_rfl) (fun _ _ _ h => h) (Or.inl ⟨by rfl, ?_⟩) (by assumption) ?_
    rotate_left
    first | (focus ((intro w hSw; (try dsimp only at hSw); go_simp); (try with_reducible rfl); done)) | fail
    try simp only [Act.put, List.getElem_toArray, List.getElem_cons_zero, List.getElem_cons_succ, List.setIfInBounds_toArray, List.set_cons_zero, List.set_cons_succ]
    refine wpAnyH_take (i := 8) (v := ?_) rfl (by kernel_rfl) (by kernel_rfl) (by kernel_rfl) (fun _ _ _ h => h) (Or.inl ⟨by rfl, ?_⟩) (by assumption) ?_
    rotate_left
    first | (focus ((intro w hSw; (try dsimp only at hSw); go_simp); (try with_reducible rfl); done)) | fail
    try simp only [Act.put, List.getElem_toArray, List.getElem_cons_zero, List.getElem_cons_succ, List.setIfInBounds_toArray, List.set_cons_zero, List.set_cons_succ]
    refine wpAnyH_ready (rs := [6]) (by kernel_rfl) (by simp) ?_
    refine AllReadyH.cons rfl (fun K hK => ?_) AllReadyH.nil
    go_simp
    refine hK.out _ _ ?_ (fun hHeld => ?_)
    · (try dsimp only); exact LvS.of HO.out.drew.drew.blk HW.out.drew.drew
    clear hK K
    try simp only [Act.put, List.getElem_toArray, List.getElem_cons_zero, List.getElem_cons_succ, List.setIfInBounds_toArray, List.set_cons_zero, List.set_cons_succ]
    refine wpAnyH_ready (rs := [9]) (by kernel_rfl) (by simp) ?_
    refine AllReadyH.cons rfl (fun K hK => ?_) AllReadyH.nil
    go_simp
    refine hK.out _ _ ?_ (fun hHeld => ?_)
    · (try dsimp only); exact HS2.out
    clear hK K
    try simp only [Act.put, List.getElem_toArray, List.getElem_cons_zero, List.getElem_cons_succ, List.setIfInBounds_toArray, List.set_cons_zero, List.set_cons_succ]
    refine wpAnyH_done (by kernel_rfl) ?_ _
    go_wp2
    first | go_end0 | refine bodyPost_ret (results_none rfl _ _ _) rfl ?_
    exact HE.out
  · have hn' : ∀ p ∈ AL, p.1 ≠ kyE x.e := fun p hp e => hk ⟨p, hp, e⟩
    have lk1 : (Instr.lookup 90 (.map (some ab)) (.agg #[.string (bs x.e.name), .string (bs x.e.dom), .string (bs x.e.path)]) false).run Tryz.prog W.drew = .ok (.map none) W.drew := HO.out.drew.look_no okk hn'
    obtain ⟨w1, q1, ho1, hc1⟩ := HO.out.drew.drew.newKey okk hn' (by simpa using hN') (by have := HLE.out.1; omega)
    have q1 : (Instr.mapUpdate 90 (.map (some ab)) (.agg #[.string (bs x.e.name), .string (bs x.e.dom), .string (bs x.e.path)]) (.map (some W.drew.drew.heap.size))).run Tryz.prog (W.drew.drew.alloc (.map #[] 0)) = .ok () w1 := q1
    have mk := run_makeMap (P := Tryz.prog) 91 W.drew.drew
    have b2 := (Below.refl W.drew.drew.heap.size W.drew.drew).alloc (Nat.le_refl _) (.map #[] 0)
    have hW2 := HW.out.drew.drew.below b2 HW.out.drew.drew.lt
    have S2 := Lib.hid (LvS.of (HO.out.drew.drew.up b2).blk hW2)
    have hW1 := hW2.ch hc1 (fun e => (HO.out.mapB _ Om.mem_ab).neWhole HW.out e)
    have S1 := Lib.hid (LvS.of ho1.blk hW1)
    have S1' := Lib.hid (LvS.of ho1.drew.blk hW1.drew)
    have hB1 : Ch (fun k => k ∈ omBs kb ab db sb AL) w w1 := (HB.out.drew.drew.trans (Ch.alloc_ (fun _ => False) _ (.map #[] 0)) (fun k _ h => h.elim)).trans hc1 (fun k hk e => by have e : k = ab := e; subst e; exact Om.mem_ab)
    have hgw : w.heap.size ≤ W.drew.drew.heap.size := HB.out.size
    have hN1 : N ≤ w1.heap.size := by have := hc1.size; simp at this; omega
    generalize hg : W.drew.drew.heap.size = g at q1 ho1 mk hgw
    have hHO := HO
    generalize W.drew.drew.alloc (.map #[] 0) = W2 at q1 mk S2
    have lk3 : (Instr.lookup 90 (.map (some ab)) (.agg #[.string (bs x.e.name), .string (bs x.e.dom), .string (bs x.e.path)]) false).run Tryz.prog w1.drew = .ok (.map (some g)) w1.drew := ho1.drew.look_yes (p := (kyE x.e, g, [])) (by simp)
    obtain ⟨w', q, ho, hc⟩ := ho1.drew.put rfl okd (by simp)
    have q : (Instr.mapUpdate 91 (.map (some g)) (.agg #[.int .i64 x.e.dot.1.1, .int .i64 x.e.dot.1.2, .int .i64 x.e.dot.2]) (.int .i64 1)).run Tryz.prog w1.drew = .ok () w' := q
    have hc : Ch (fun k => k = g) w1.drew w' := hc
    have HS3 := Lib.hid (LvS.of ho.blk (hW1.drew.ch hc (fun e => (ho1.mapB _ (Om.mem_in (p := (kyE x.e, g, [])) (by simp))).neWhole hW1 e)))
    have HE := Lib.hid (show LiveE w N m kb ab db sv sb K AL D M (kyE x.e) x.e.dot n (.returned (.tuple #[])) w' from by
      refine ⟨rfl, _, ho, ?_, ?_, ?_, hB1.drew.trans hc (fun k hk e => by have e : k = g := e; exact absurd hk (by omega))⟩
      · intro r hr
        simp only [List.nil_append] at hr
        rcases List.mem_cons.1 hr with rfl | hr
        · simp
        · exact HND.out r hr
      · have hl := HLE.out.1
        refine ⟨by simp; omega, fun r hr => ?_⟩
        simp only [List.nil_append] at hr
        rcases List.mem_cons.1 hr with rfl | hr
        · simp
        · have := HLE.out.2 r hr; omega
      · intro ky' d'
        rw [alHas_put ky' d', alHas_new])
    have qE := HQ.out.1
    clear ho ho1 hW1 hW2 hc hc1 hn' HND HLE hB1 b2 hHO
    go_enter Tryz.func50, Tryz.ntmps50
    go_wp2_with fail
    rw [HWW.out]
    generalize w.heap.size = E at *
    refine wp_region_held_drew (S := (fun W => W.cell? ⟨m, 1, none⟩ = some (.map (some ab)) ∧ W.cell? ⟨E, 0, none⟩ = some (.int .i64 x.e.dot.1.1) ∧ W.cell? ⟨E, 1, none⟩ = some (.int .i64 x.e.dot.1.2) ∧ W.cell? ⟨E, 2, none⟩ = some (.int .i64 x.e.dot.2) ∧ W.cell? ⟨E, 7, none⟩ = some (.string (bs x.e.name)) ∧ W.cell? ⟨E, 8, none⟩ = some (.string (bs x.e.dom)) ∧ W.cell? ⟨E, 9, none⟩ = some (.string (bs x.e.path)))) (by kernel_rfl) ?_ (fun hHeld => ?_)
    · (try dsimp only); exact LvS.of HO.out.drew.blk HW.out.drew
    refine wpAnyH_take (i := 0) (v := ?_) rfl (by kernel_rfl) (by kernel_rfl) (by kernel_rfl) (fun _ _ _ h => h) (Or.inl ⟨by rfl, ?_⟩) (by assumption) ?_
    rotate_left
    first | (focus ((intro w hSw; (try dsimp only at hSw); go_simp); (try with_reducible rfl); done)) | fail
    try simp only [Act.put, List.getElem_toArray, List.getElem_cons_zero, List.setIfInBounds_toArray, List.set_cons_zero, List.set_cons_succ]
    refine wpAnyH_take (i := 1) (v := ?_) rfl (by kernel_rfl) (by kernel_rfl) (by kernel_rfl) (fun _ _ _ h => h) (Or.inl ⟨by rfl, ?_⟩) (by assumption) ?_
    rotate_left
    first | (focus ((intro w hSw; (try dsimp only at hSw); go_simp); (try with_reducible rfl); done)) | fail
    try simp only [Act.put, List.getElem_toArray, List.getElem_cons_zero, List.getElem_cons_succ, List.setIfInBounds_toArray, List.set_cons_zero, List.set_cons_succ]
    refine wpAnyH_take (i := 2) (v := ?_) rfl (by kernel_rfl) (by kernel_rfl) (by kernel_rfl) (fun _ _ _ h => h) (Or.inl ⟨by rfl, ?_⟩) (by assumption) ?_
    rotate_left
    first | (focus ((intro w hSw; (try dsimp only at hSw); go_simp); (try with_reducible rfl); done)) | fail
    try simp only [Act.put, List.getElem_toArray, List.getElem_cons_zero, List.getElem_cons_succ, List.setIfInBounds_toArray, List.set_cons_zero, List.set_cons_succ]
    refine wpAnyH_take (i := 3) (v := ?_) rfl (by kernel_rfl) (by kernel_rfl) (by kernel_rfl) (fun _ _ _ h => h) (Or.inl ⟨by rfl, ?_⟩) (by assumption) ?_
    rotate_left
    first | (focus ((intro w hSw; (try dsimp only at hSw); go_simp); (try with_reducible rfl); done)) | fail
    try simp only [Act.put, List.getElem_toArray, List.getElem_cons_zero, List.getElem_cons_succ, List.setIfInBounds_toArray, List.set_cons_zero, List.set_cons_succ]
    refine wpAnyH_take (i := 4) (v := ?_) rfl (by kernel_rfl) (by kernel_rfl) (by kernel_rfl) (fun _ _ _ h => h) (Or.inl ⟨by rfl, ?_⟩) (by assumption) ?_
    rotate_left
    first | (focus ((intro w hSw; (try dsimp only at hSw); go_simp); (try with_reducible rfl); done)) | fail
    try simp only [Act.put, List.getElem_toArray, List.getElem_cons_zero, List.getElem_cons_succ, List.setIfInBounds_toArray, List.set_cons_zero, List.set_cons_succ]
    refine wpAnyH_take (i := 5) (v := ?_) rfl (by kernel_rfl) (by kernel_rfl) (by kernel_rfl) (fun _ _ _ h => h) (Or.inl ⟨by rfl, ?_⟩) (by assumption) ?_
    rotate_left
    first | (focus ((intro w hSw; (try dsimp only at hSw); go_simp); (try with_reducible rfl); done)) | fail
    try simp only [Act.put, List.getElem_toArray, List.getElem_cons_zero, List.getElem_cons_succ, List.setIfInBounds_toArray, List.set_cons_zero, List.set_cons_succ]
    refine wpAnyH_ready (rs := [6]) (by kernel_rfl) (by simp) ?_
    refine AllReadyH.cons rfl (fun K hK => ?_) AllReadyH.nil
    go_simp
    refine hK.out _ _ ?_ (fun hHeld => ?_)
    · (try dsimp only); exact LvS.of HO.out.drew.blk HW.out.drew
    clear hK K
    try simp only [Act.put, List.getElem_toArray, List.getElem_cons_zero, List.getElem_cons_succ, List.setIfInBounds_toArray, List.set_cons_zero, List.set_cons_succ]
    refine wpAnyH_take (i := 7) (v := ?_) rfl (by kernel_rfl) (by kernel_rfl) (by kernel_rfl) (fun _ _ _ h => h) (Or.inl ⟨by rfl, ?_⟩) (by assumption) ?_
    rotate_left
    first | (focus ((intro w hSw; (try dsimp only at hSw); go_simp); (try with_reducible rfl); done)) | fail
    try simp only [Act.put, List.getElem_toArray, List.getElem_cons_zero, List.getElem_cons_succ, List.setIfInBounds_toArray, List.set_cons_zero, List.set_cons_succ]
    refine wpAnyH_done (by kernel_rfl) ?_ _
    go_wp2_with fail
    refine wp_region_held_drew (S := (fun W => W.cell? ⟨m, 1, none⟩ = some (.map (some ab)) ∧ W.cell? ⟨E, 0, none⟩ = some (.int .i64 x.e.dot.1.1) ∧ W.cell? ⟨E, 1, none⟩ = some (.int .i64 x.e.dot.1.2) ∧ W.cell? ⟨E, 2, none⟩ = some (.int .i64 x.e.dot.2) ∧ W.cell? ⟨E, 7, none⟩ = some (.string (bs x.e.name)) ∧ W.cell? ⟨E, 8, none⟩ = some (.string (bs x.e.dom)) ∧ W.cell? ⟨E, 9, none⟩ = some (.string (bs x.e.path)))) (by kernel_rfl) ?_ (fun hHeld => ?_)
    · (try dsimp only); exact LvS.of HO.out.drew.drew.blk HW.out.drew.drew
    refine wpAnyH_take (i := 0) (v := ?_) rfl (by kernel_rfl) (by kernel_rfl) (by kernel_rfl) (fun _ _ _ h => h) (Or.inl ⟨by rfl, ?_⟩) (by assumption) ?_
    rotate_left
    first | (focus ((intro w hSw; (try dsimp only at hSw); go_simp); (try with_reducible rfl); done)) | fail
    try simp only [Act.put, List.getElem_toArray, List.getElem_cons_zero, List.setIfInBounds_toArray, List.set_cons_zero, List.set_cons_succ]
    refine wpAnyH_take (i := 1) (v := ?_) rfl (by kernel_rfl) (by kernel_rfl) (by kernel_rfl) (fun _ _ _ h => h) (Or.inl ⟨by rfl, ?_⟩) (by assumption) ?_
    rotate_left
    first | (focus ((intro w hSw; (try dsimp only at hSw); go_simp); (try with_reducible rfl); done)) | fail
    try simp only [Act.put, List.getElem_toArray, List.getElem_cons_zero, List.getElem_cons_succ, List.setIfInBounds_toArray, List.set_cons_zero, List.set_cons_succ]
    refine wpAnyH_take (i := 2) (v := ?_) rfl (by kernel_rfl) (by kernel_rfl) (by kernel_rfl) (fun _ _ _ h => h) (Or.inl ⟨by rfl, ?_⟩) (by assumption) ?_
    rotate_left
    first | (focus ((intro w hSw; (try dsimp only at hSw); go_simp); (try with_reducible rfl); done)) | fail
    try simp only [Act.put, List.getElem_toArray, List.getElem_cons_zero, List.getElem_cons_succ, List.setIfInBounds_toArray, List.set_cons_zero, List.set_cons_succ]
    refine wpAnyH_take (i := 3) (v := ?_) rfl (by kernel_rfl) (by kernel_rfl) (by kernel_rfl) (fun _ _ _ h => h) (Or.inl ⟨by rfl, ?_⟩) (by assumption) ?_
    rotate_left
    first | (focus ((intro w hSw; (try dsimp only at hSw); go_simp); (try with_reducible rfl); done)) | fail
    try simp only [Act.put, List.getElem_toArray, List.getElem_cons_zero, List.getElem_cons_succ, List.setIfInBounds_toArray, List.set_cons_zero, List.set_cons_succ]
    refine wpAnyH_take (i := 4) (v := ?_) rfl (by kernel_rfl) (by kernel_rfl) (by kernel_rfl) (fun _ _ _ h => h) (Or.inl ⟨by rfl, ?_⟩) (by assumption) ?_
    rotate_left
    first | (focus ((intro w hSw; (try dsimp only at hSw); go_simp); (try with_reducible rfl); done)) | fail
    try simp only [Act.put, List.getElem_toArray, List.getElem_cons_zero, List.getElem_cons_succ, List.setIfInBounds_toArray, List.set_cons_zero, List.set_cons_succ]
    refine wpAnyH_take (i := 5) (v := ?_) rfl (by kernel_rfl) (by kernel_rfl) (by kernel_rfl) (fun _ _ _ h => h) (Or.inl ⟨by rfl, ?_⟩) (by assumption) ?_
    rotate_left
    first | (focus ((intro w hSw; (try dsimp only at hSw); go_simp); (try with_reducible rfl); done)) | fail
    try simp only [Act.put, List.getElem_toArray, List.getElem_cons_zero, List.getElem_cons_succ, List.setIfInBounds_toArray, List.set_cons_zero, List.set_cons_succ]
    refine wpAnyH_ready (rs := [6]) (by kernel_rfl) (by simp) ?_
    refine AllReadyH.cons rfl (fun K hK => ?_) AllReadyH.nil
    go_simp
    refine hK.out _ _ ?_ (fun hHeld => ?_)
    · (try dsimp only); exact S2.out
    clear hK K
    try simp only [Act.put, List.getElem_toArray, List.getElem_cons_zero, List.getElem_cons_succ, List.setIfInBounds_toArray, List.set_cons_zero, List.set_cons_succ]
    refine wpAnyH_ready (rs := [7]) (by kernel_rfl) (by simp) ?_
    refine AllReadyH.cons rfl (fun K hK => ?_) AllReadyH.nil
    go_simp
    refine hK.out _ _ ?_ (fun hHeld => ?_)
    · (try dsimp only); exact S1.out
    clear hK K
    try simp only [Act.put, List.getElem_toArray, List.getElem_cons_zero, List.getElem_cons_succ, List.setIfInBounds_toArray, List.set_cons_zero, List.set_cons_succ]
    refine wpAnyH_done (by kernel_rfl) ?_ _
    go_wp2_with fail
    refine wp_region_held_drew (S := (fun W => W.cell? ⟨m, 1, none⟩ = some (.map (some ab)) ∧ W.cell? ⟨E, 0, none⟩ = some (.int .i64 x.e.dot.1.1) ∧ W.cell? ⟨E, 1, none⟩ = some (.int .i64 x.e.dot.1.2) ∧ W.cell? ⟨E, 2, none⟩ = some (.int .i64 x.e.dot.2) ∧ W.cell? ⟨E, 7, none⟩ = some (.string (bs x.e.name)) ∧ W.cell? ⟨E, 8, none⟩ = some (.string (bs x.e.dom)) ∧ W.cell? ⟨E, 9, none⟩ = some (.string (bs x.e.path)))) (by kernel_rfl) ?_ (fun hHeld => ?_)
    · (try dsimp only); exact S1'.out
    refine wpAnyH_take (i := 0) (v := ?_) rfl (by kernel_rfl) (by kernel_rfl) (by kernel_rfl) (fun _ _ _ h => h) (Or.inl ⟨by rfl, ?_⟩) (by assumption) ?_
    rotate_left
    first | (focus ((intro w hSw; (try dsimp only at hSw); go_simp); (try with_reducible rfl); done)) | fail
    try simp only [Act.put, List.getElem_toArray, List.getElem_cons_zero, List.setIfInBounds_toArray, List.set_cons_zero, List.set_cons_succ]
    refine wpAnyH_take (i := 1) (v := ?_) rfl (by kernel_rfl) (by kernel_rfl) (by kernel_rfl) (fun _ _ _ h => h) (Or.inl ⟨by rfl, ?_⟩) (by assumption) ?_
    rotate_left
    first | (focus ((intro w hSw; (try dsimp only at hSw); go_simp); (try with_reducible rfl); done)) | fail
    try simp only [Act.put, List.getElem_toArray, List.getElem_cons_zero, List.getElem_cons_succ, List.setIfInBounds_toArray, List.set_cons_zero, List.set_cons_succ]
    refine wpAnyH_take (i := 2) (v := ?_) rfl (by kernel_rfl) (by kernel_rfl) (by kernel_rfl) (fun _ _ _ h => h) (Or.inl ⟨by rfl, ?_⟩) (by assumption) ?_
    rotate_left
    first | (focus ((intro w hSw; (try dsimp only at hSw); go_simp); (try with_reducible rfl); done)) | fail
    try simp only [Act.put, List.getElem_toArray, List.getElem_cons_zero, List.getElem_cons_succ, List.setIfInBounds_toArray, List.set_cons_zero, List.set_cons_succ]
    refine wpAnyH_take (i := 3) (v := ?_) rfl (by kernel_rfl) (by kernel_rfl) (by kernel_rfl) (fun _ _ _ h => h) (Or.inl ⟨by rfl, ?_⟩) (by assumption) ?_
    rotate_left
    first | (focus ((intro w hSw; (try dsimp only at hSw); go_simp); (try with_reducible rfl); done)) | fail
    try simp only [Act.put, List.getElem_toArray, List.getElem_cons_zero, List.getElem_cons_succ, List.setIfInBounds_toArray, List.set_cons_zero, List.set_cons_succ]
    refine wpAnyH_take (i := 4) (v := ?_) rfl (by kernel_rfl) (by kernel_rfl) (by kernel_rfl) (fun _ _ _ h => h) (Or.inl ⟨by rfl, ?_⟩) (by assumption) ?_
    rotate_left
    first | (focus ((intro w hSw; (try dsimp only at hSw); go_simp); (try with_reducible rfl); done)) | fail
    try simp only [Act.put, List.getElem_toArray, List.getElem_cons_zero, List.getElem_cons_succ, List.setIfInBounds_toArray, List.set_cons_zero, List.set_cons_succ]
    refine wpAnyH_take (i := 5) (v := ?_) rfl (by kernel_rfl) (by kernel_rfl) (by kernel_rfl) (fun _ _ _ h => h) (Or.inl ⟨by rfl, ?_⟩) (by assumption) ?_
    rotate_left
    first | (focus ((intro w hSw; (try dsimp only at hSw); go_simp); (try with_reducible rfl); done)) | fail
    try simp only [Act.put, List.getElem_toArray, List.getElem_cons_zero, List.getElem_cons_succ, List.setIfInBounds_toArray, List.set_cons_zero, List.set_cons_succ]
    refine wpAnyH_take (i := 7) (v := ?_) rfl (by kernel_rfl) (by kernel_rfl) (by kernel_rfl) (fun _ _ _ h => h) (Or.inl ⟨by rfl, ?_⟩) (by assumption) ?_
    rotate_left
    first | (focus ((intro w hSw; (try dsimp only at hSw); go_simp); (try with_reducible rfl); done)) | fail
    try simp only [Act.put, List.getElem_toArray, List.getElem_cons_zero, List.getElem_cons_succ, List.setIfInBounds_toArray, List.set_cons_zero, List.set_cons_succ]
    refine wpAnyH_take (i := 8) (v := ?_) rfl (by kernel_rfl) (by kernel_rfl) (by kernel_rfl) (fun _ _ _ h => h) (Or.inl ⟨by rfl, ?_⟩) (by assumption) ?_
    rotate_left
    first | (focus ((intro w hSw; (try dsimp only at hSw); go_simp); (try with_reducible rfl); done)) | fail
    try simp only [Act.put, List.getElem_toArray, List.getElem_cons_zero, List.getElem_cons_succ, List.setIfInBounds_toArray, List.set_cons_zero, List.set_cons_succ]
    refine wpAnyH_ready (rs := [6]) (by kernel_rfl) (by simp) ?_
    refine AllReadyH.cons rfl (fun K hK => ?_) AllReadyH.nil
    go_simp
    refine hK.out _ _ ?_ (fun hHeld => ?_)
    · (try dsimp only); exact S1'.out
    clear hK K
    try simp only [Act.put, List.getElem_toArray, List.getElem_cons_zero, List.getElem_cons_succ, List.setIfInBounds_toArray, List.set_cons_zero, List.set_cons_succ]
    refine wpAnyH_ready (rs := [9]) (by kernel_rfl) (by simp) ?_
    refine AllReadyH.cons rfl (fun K hK => ?_) AllReadyH.nil
    go_simp
    refine hK.out _ _ ?_ (fun hHeld => ?_)
    · (try dsimp only); exact HS3.out
    clear hK K
    try simp only [Act.put, List.getElem_toArray, List.getElem_cons_zero, List.getElem_cons_succ, List.setIfInBounds_toArray, List.set_cons_zero, List.set_cons_succ]
    refine wpAnyH_done (by kernel_rfl) ?_ _
    go_wp2
    first | go_end0 | refine bodyPost_ret (results_none rfl _ _ _) rfl ?_
    exact HE.out
end Go.Proofs.YtpakmeegldgjmaaGreat
/- Layer 21 (ormap): kill. -/
namespace Go.Proofs.YtpakmeegldgjmaaGreat
open Go.RowKit
set_option linter.unusedVariables false
set_option linter.unusedSimpArgs false
set_option maxRecDepth 100000
attribute [local go_sem ↓] Go.wp_at_zero Go.wp_at_succ

/-- A store of a whole block's struct as a step of a region that draws. -/
theorem step_store {P : Program} {op : Oper} {ops : Array Oper} {a : Act} {W : World} {T t : TypeId} {g : Nat} {C cs : Array Value} {Q : Exit → Act → World → Prop} {K : Act → World → Prop} {E : Prop} (hg : op.guard = none) (x y : Operand) (ho : op.op = .store T x y) (hx : a.eval x = .pointer (some ⟨g, 0, none⟩)) (hy : a.eval y = .agg cs) (hW : Whole W g t C) (hs : C.size = cs.size) (hi : (P.info? T).map (·.size) = some cs.size) (h1 : cs.toList.all (·.oneCell') = true)
    (h : ∀ W', Whole W' g t cs → Ch (fun k => k = g) W W' → W'.heap.size = W.heap.size → K (a.put op.dst undef) W') : if Region.wanted op (yielded ops a.tmps) = true then Oper.wp P op a W K Q else E := by
  have hw : Region.wanted op (yielded ops a.tmps) = true := by simp [Region.wanted, hg]
  rw [if_pos hw]
  exact wp_store_mid T x y ho g 0 cs hx hy (fun j hj => ⟨by rw [Nat.zero_add, hW.cell]; simp [hs, hj], hW.free _⟩) hi (by rw [← Array.all_toList]; exact h1) (h _ (by
    have := heap_setCells cs.toList W C 0 hW
    rw [setMany_all _ _ (by simp [hs]), Array.toArray_toList] at this
    exact this) (ch_setCells _ _ _ _).1 (ch_setCells _ _ _ _).2)
/-- The zero event. -/
def e00 : El := ⟨⟨((0, 0), 0), (0, 0, 0), 0, [], [], [], [], false, false, false, false, 0, 0, 0, []⟩, none, 0⟩
/-- What is kept at a dot: found or not, an event's row is what the lookup yields. -/
theorem keptAt (K : List El) (d : Dt) : ∃ x : El, mvget (.agg (evA e00.e e00.A e00.c)) (keptV K) d = .agg (evA x.e x.A x.c) ∧ (mvhas (keptV K) d = true → x ∈ K ∧ x.e.dot = d) ∧ (mvhas (keptV K) d = false → ∀ y ∈ K, y.e.dot ≠ d) := by
  induction K with
  | nil => exact ⟨e00, rfl, by simp [keptV, mvhas], by simp⟩
  | cons y r ih =>
    by_cases e : y.e.dot = d
    · refine ⟨y, ?_, fun _ => ⟨List.mem_cons_self .., e⟩, fun h => ?_⟩
      · simp [keptV, mvget, e]
      · simp [keptV, mvhas, e] at h
    · obtain ⟨x, h1, h2, h3⟩ := ih
      have hm : mvhas (keptV (y :: r)) d = mvhas (keptV r) d := by simp [keptV, mvhas, e]
      refine ⟨x, ?_, fun h => ?_, fun h z hz => ?_⟩
      · rw [← h1]; simp [keptV, mvget, e]
      · obtain ⟨h4, h5⟩ := h2 (hm ▸ h); exact ⟨List.mem_cons_of_mem _ h4, h5⟩
      · rcases List.mem_cons.1 hz with rfl | hz
        · exact e
        · exact h3 (hm ▸ h) z hz
section
variable {w w' : World} {N m kb ab db sv sb : Nat} {K : List El} {AL : List (Ky × Nat × List Dt)} {D M : List Dt}
theorem Om.look_kept (h : Om w N m kb ab db sv sb K AL D M) {d : Dt} (ok : dtOk d) : (Instr.lookup 89 (.map (some kb)) (dtV d) true).run Tryz.prog w = .ok (.tuple #[mvget (.agg (evA e00.e e00.A e00.c)) (keptV K) d, .bool (mvhas (keptV K) d)]) w :=
  h.kept.lookup_ok dot_key Tryz.underlying89 (Tryz.zeroValue59 _) ok
/-- A dot more is dead. -/
theorem Om.die (h : Om w N m kb ab db sv sb K AL D M) {d : Dt} (ok : dtOk d) (hl : D.length ≤ 1000000) :
    ∃ w', (Instr.mapUpdate 91 (.map (some db)) (dtV d) (.int .i64 1)).run Tryz.prog w = .ok () w' ∧ Om w' N m kb ab db sv sb K AL (d :: D.filter fun y => decide (y ≠ d)) M ∧ Ch (fun k => k = db) w w' := by
  obtain ⟨w', q, hm, hg⟩ := h.dead.update dot_key Tryz.underlying91 Tryz.underlying3 (by rw [ones_len]; unfold maxLen; omega) ok (n := 1) (by decide) (W' := ones (d :: D.filter fun y => decide (y ≠ d))) (by
    have e : ones (d :: D.filter fun y => decide (y ≠ d)) = (d, 1) :: ones (D.filter fun y => decide (y ≠ d)) := rfl
    rw [e, ← ones_filter D (fun y => decide (y ≠ d))])
  have hc : Ch (fun k => k = db) w w' := (grown_ch hg).mono fun k _ hk => by injection hk
  exact ⟨w', q, h.setDead hc hm, hc⟩
/-- A dot less in a key's set. -/
theorem Om.take_ (h : Om w N m kb ab db sv sb K AL D M) {A1 A2 : List (Ky × Nat × List Dt)} {p : Ky × Nat × List Dt} (hA : AL = A1 ++ p :: A2) {d : Dt} (ok : dtOk d) (ty : TypeId) :
    ∃ w', (Builtin.delete_ #[91, 50] ty #[.map (some p.2.1), dtV d]).run Tryz.prog w = .ok (.tuple #[]) w' ∧ Om w' N m kb ab db sv sb K (A1 ++ (p.1, p.2.1, p.2.2.filter fun y => decide (y ≠ d)) :: A2) D M ∧ Ch (fun k => k = p.2.1) w w' := by
  have hp : p ∈ AL := by rw [hA]; simp
  obtain ⟨w', q, hm, hg⟩ := (h.inner p hp).delete dot_key Tryz.underlying91 (ty := ty) ok (W' := ones (p.2.2.filter fun y => decide (y ≠ d))) (by rw [← ones_filter p.2.2 (fun y => decide (y ≠ d))])
  have hc : Ch (fun k => k = p.2.1) w w' := (grown_ch hg).mono fun k _ hk => by injection hk
  exact ⟨w', q, h.setInner hA hc hm, hc⟩
/-- A key less. -/
theorem Om.dropKey (h : Om w N m kb ab db sv sb K AL D M) {ky : Ky} (ok : kyOk ky) (ty : TypeId) :
    ∃ w', (Builtin.delete_ #[90, 54] ty #[.map (some ab), kyV ky]).run Tryz.prog w = .ok (.tuple #[]) w' ∧ Om w' N m kb ab db sv sb K (AL.filter fun p => decide (p.1 ≠ ky)) D M ∧ Ch (fun k => k = ab) w w' := by
  obtain ⟨w', q, hm, hg⟩ := h.alive.delete key_key Tryz.underlying90 (ty := ty) ok (W' := aliveV (AL.filter fun p => decide (p.1 ≠ ky))) (by
    unfold aliveV
    rw [List.filter_map]
    exact List.Perm.refl _)
  have hc : Ch (fun k => k = ab) w w' := (grown_ch hg).mono fun k _ hk => by injection hk
  have hsub : List.Sublist (omBs kb ab db sb (AL.filter fun p => decide (p.1 ≠ ky))) (omBs kb ab db sb AL) := by
    unfold omBs
    exact ((((List.filter_sublist).map _).cons_cons _).cons_cons _).cons_cons _ |>.cons_cons _
  exact ⟨w', q, h.setAlive hc hm (fun p hp => h.inner p (List.mem_filter.1 hp).1) (hsub.nodup h.nd) (fun g hg => h.lo g (hsub.subset hg)), hc⟩
theorem Om.len_in (h : Om w N m kb ab db sv sb K AL D M) {p : Ky × Nat × List Dt} (hp : p ∈ AL) (ty : TypeId) : (Builtin.len_ #[91] ty #[.map (some p.2.1)]).run Tryz.prog w = .ok (.int .i64 p.2.2.length) w := by
  have := (h.inner p hp).1.len Tryz.underlying91 ty
  rw [this]
  simp [Maps.size, length_sorted, ones_len]
end
theorem del_nil (w : World) (d : Dt) (ok : dtOk d) (ty : TypeId) : (Builtin.delete_ #[91, 50] ty #[.map none, dtV d]).run Tryz.prog w = .ok (.tuple #[]) w :=
  Maps.drop_nil dot_key.law Tryz.underlying91 (dot_key.klit ok) ty
theorem len_nil_ (w : World) (ty : TypeId) : (Builtin.len_ #[91] ty #[.map none]).run Tryz.prog w = .ok (.int .i64 0) w :=
  Maps.len_nil Tryz.underlying91 ty
/-- What kill leaves. -/
def KillE (w : World) (N m kb ab db sv sb : Nat) (K : List El) (AL : List (Ky × Nat × List Dt)) (D M : List Dt) (d : Dt) (n : Nat) (e : Ending) (w' : World) : Prop :=
  e = .returned (.tuple #[]) ∧ ∃ AL', Om w' N m kb ab db sv sb K AL' (d :: D.filter fun y => decide (y ≠ d)) M ∧ alNE AL' ∧ alLe AL' n ∧ (∀ ky' d', alHas AL' ky' d' ↔ alHas AL ky' d' ∧ d' ≠ d) ∧ Ch (fun k => k ∈ omBs kb ab db sb AL) w w'
/-- The alive dots are kept puts. -/
def alIn (K : List El) (AL : List (Ky × Nat × List Dt)) : Prop := ∀ ky d, alHas AL ky d → ∃ x ∈ K, x.e.kind = 1 ∧ x.e.dot = d ∧ kyE x.e = ky
theorem alHas_take {A1 A2 : List (Ky × Nat × List Dt)} {p : Ky × Nat × List Dt} {d : Dt} (hn : ∀ ky, alHas (A1 ++ p :: A2) ky d → ky = p.1) (hu : ∀ q ∈ A1 ++ A2, q.1 ≠ p.1) (ky' : Ky) (d' : Dt) : alHas (A1 ++ (p.1, p.2.1, p.2.2.filter fun y => decide (y ≠ d)) :: A2) ky' d' ↔ alHas (A1 ++ p :: A2) ky' d' ∧ d' ≠ d := by
  unfold alHas at hn ⊢
  constructor
  · rintro ⟨q, hq, rfl, hd⟩
    have key : ∀ r ∈ A1 ++ A2, d' ∈ r.2.2 → d' ≠ d := by
      rintro r hr hd rfl
      have hr' : r ∈ A1 ++ p :: A2 := by
        rcases List.mem_append.1 hr with hr | hr
        · exact List.mem_append_left _ hr
        · exact List.mem_append_right _ (List.mem_cons_of_mem _ hr)
      exact hu r hr (hn r.1 ⟨r, hr', rfl, hd⟩)
    rcases List.mem_append.1 hq with hq | hq
    · exact ⟨⟨q, List.mem_append_left _ hq, rfl, hd⟩, key q (List.mem_append_left _ hq) hd⟩
    · rcases List.mem_cons.1 hq with rfl | hq
      · simp only [List.mem_filter, decide_eq_true_eq] at hd
        exact ⟨⟨p, by simp, rfl, hd.1⟩, hd.2⟩
      · exact ⟨⟨q, List.mem_append_right _ (List.mem_cons_of_mem _ hq), rfl, hd⟩, key q (List.mem_append_right _ hq) hd⟩
  · rintro ⟨⟨q, hq, rfl, hd⟩, hne⟩
    rcases List.mem_append.1 hq with hq | hq
    · exact ⟨q, List.mem_append_left _ hq, rfl, hd⟩
    · rcases List.mem_cons.1 hq with rfl | hq
      · refine ⟨_, List.mem_append_right _ (List.mem_cons_self ..), rfl, ?_⟩
        simp only [List.mem_filter]
        exact ⟨hd, decide_eq_true hne⟩
      · exact ⟨q, List.mem_append_right _ (List.mem_cons_of_mem _ hq), rfl, hd⟩
theorem alHas_none {A1 A2 : List (Ky × Nat × List Dt)} {p : Ky × Nat × List Dt} (hp : p.2.2 = []) (ky' : Ky) (d' : Dt) : alHas (A1 ++ A2) ky' d' ↔ alHas (A1 ++ p :: A2) ky' d' := by
  unfold alHas
  constructor
  · rintro ⟨q, hq, h⟩
    rcases List.mem_append.1 hq with hq | hq
    · exact ⟨q, List.mem_append_left _ hq, h⟩
    · exact ⟨q, List.mem_append_right _ (List.mem_cons_of_mem _ hq), h⟩
  · rintro ⟨q, hq, h⟩
    rcases List.mem_append.1 hq with hq | hq
    · exact ⟨q, List.mem_append_left _ hq, h⟩
    · rcases List.mem_cons.1 hq with rfl | hq
      · rw [hp] at h; exact absurd h.2 (by simp)
      · exact ⟨q, List.mem_append_right _ hq, h⟩
theorem KvS.of {w : World} {m kb ab db sv E : Nat} {d : Dt} (h1 : Whole w m 95 #[.map (some kb), .map (some ab), .map (some db), .pointer (some ⟨sv, 0, none⟩)]) (h2 : C3 E d.1.1 d.1.2 d.2 w) : w.cell? ⟨m, 0, none⟩ = some (.map (some kb)) ∧ w.cell? ⟨m, 1, none⟩ = some (.map (some ab)) ∧ w.cell? ⟨m, 2, none⟩ = some (.map (some db)) ∧ w.cell? ⟨E, 0, none⟩ = some (.int .i64 d.1.1) ∧ w.cell? ⟨E, 1, none⟩ = some (.int .i64 d.1.2) ∧ w.cell? ⟨E, 2, none⟩ = some (.int .i64 d.2) := by
  refine ⟨?_, ?_, ?_, h2.1, h2.2.1, h2.2.2⟩
  all_goals (rw [h1.cell]; rfl)
theorem KfS.of {w : World} {m kb ab db sv E F : Nat} {d : Dt} {x : El} (h1 : Whole w m 95 #[.map (some kb), .map (some ab), .map (some db), .pointer (some ⟨sv, 0, none⟩)]) (h2 : C3 E d.1.1 d.1.2 d.2 w) (h3 : Whole w F 59 (evA x.e x.A x.c)) : w.cell? ⟨m, 1, none⟩ = some (.map (some ab)) ∧ w.cell? ⟨E, 0, none⟩ = some (.int .i64 d.1.1) ∧ w.cell? ⟨E, 1, none⟩ = some (.int .i64 d.1.2) ∧ w.cell? ⟨E, 2, none⟩ = some (.int .i64 d.2) ∧ w.cell? ⟨F, 7, none⟩ = some (.string (bs x.e.name)) ∧ w.cell? ⟨F, 8, none⟩ = some (.string (bs x.e.dom)) ∧ w.cell? ⟨F, 9, none⟩ = some (.string (bs x.e.path)) := by
  refine ⟨?_, h2.1, h2.2.1, h2.2.2, ?_, ?_, ?_⟩
  all_goals first | (rw [h1.cell]; rfl) | (rw [h3.cell]; rfl)
theorem kept_one {K : List El} (h : ((keptV K).map (·.1)).Nodup) {x y : El} (hx : x ∈ K) (hy : y ∈ K) (e : x.e.dot = y.e.dot) : x = y := by
  induction K with
  | nil => cases hx
  | cons z r ih =>
    simp only [keptV, List.map_cons, List.nodup_cons, List.map_map] at h
    have hn : ∀ u ∈ r, u.e.dot ≠ z.e.dot := fun u hu e => h.1 (List.mem_map.2 ⟨u, hu, e⟩)
    rcases List.mem_cons.1 hx with rfl | hx1
    · rcases List.mem_cons.1 hy with rfl | hy1
      · rfl
      · exact absurd e.symm (hn _ hy1)
    · rcases List.mem_cons.1 hy with rfl | hy1
      · exact absurd e (hn _ hx1)
      · exact ih (by simp only [keptV, List.map_map]; exact h.2) hx1 hy1
theorem al_keys {A1 A2 : List (Ky × Nat × List Dt)} {p : Ky × Nat × List Dt} (h : ((aliveV (A1 ++ p :: A2)).map (·.1)).Nodup) : (∀ q ∈ A1 ++ A2, q.1 ≠ p.1) ∧ ∀ L, (A1 ++ (p.1, p.2.1, L) :: A2).filter (fun q => decide (q.1 ≠ p.1)) = A1 ++ A2 := by
  simp only [aliveV, List.map_append, List.map_cons, List.map_map] at h
  rw [List.nodup_append] at h
  obtain ⟨h1, h2, h3⟩ := h
  rw [List.nodup_cons] at h2
  have hn : ∀ q ∈ A1 ++ A2, q.1 ≠ p.1 := by
    intro q hq e
    rcases List.mem_append.1 hq with hq | hq
    · exact h3 _ (List.mem_map.2 ⟨q, hq, rfl⟩) _ (List.mem_cons_self ..) e
    · exact h2.1 (List.mem_map.2 ⟨q, hq, e⟩)
  refine ⟨hn, fun L => ?_⟩
  rw [List.filter_append, List.filter_cons, if_neg (by simp)]
  congr 1
  · exact List.filter_eq_self.2 fun q hq => decide_eq_true (hn q (List.mem_append_left _ hq))
  · exact List.filter_eq_self.2 fun q hq => decide_eq_true (hn q (List.mem_append_right _ hq))
set_option maxHeartbeats 4000000 in
theorem ormkill_any (w : World) (N m kb ab db sv sb : Nat) (K : List El) (AL : List (Ky × Nat × List Dt)) (D M : List Dt) (h : Om w N m kb ab db sv sb K AL D M) (d : Dt) (okd : dtOk d) (hin : alIn K AL) (hky : ∀ x ∈ K, kyOk (kyE x.e)) (hne : alNE AL) (n : Nat) (hn : n ≤ 1000000) (hle : alLe AL n) (hD : D.length ≤ 1000000) (hN : N ≤ w.heap.size) :
    Calls Tryz.prog 51 #[.pointer (some ⟨m, 0, none⟩), dtV d] w (KillE w N m kb ab db sv sb K AL D M d n) := by
  have B0 := (Below.refl w.heap.size w).alloc (Nat.le_refl _) (.cells #[.int .i64 d.1.1, .int .i64 d.1.2, .int .i64 d.2] 50)
  have HO := h.up B0
  have HC := C3.new w d.1.1 d.1.2 d.2 50
  have HB : Ch (fun k => k ∈ omBs kb ab db sb AL) w _ := below_ch B0
  have hN' : N ≤ (w.alloc (.cells #[.int .i64 d.1.1, .int .i64 d.1.2, .int .i64 d.2] 50)).heap.size := by simp; omega
  have hlt : w.heap.size < (w.alloc (.cells #[.int .i64 d.1.1, .int .i64 d.1.2, .int .i64 d.2] 50)).heap.size := by simp
  have HH := Lib.hid (And.intro hin (And.intro hky (And.intro hne (And.intro hle h.kept.2.1))))
  clear h B0 hin hky hne hle hN
  generalize hW : w.alloc (.cells #[.int .i64 d.1.1, .int .i64 d.1.2, .int .i64 d.2] 50) = W at *
  have HWW := Lib.hid hW
  clear hW
  obtain ⟨w1, q1, HO1, hc1⟩ := HO.drew.die okd hD
  have q1 : (Instr.mapUpdate 91 (.map (some db)) (.agg #[.int .i64 d.1.1, .int .i64 d.1.2, .int .i64 d.2]) (.int .i64 1)).run Tryz.prog W.drew = .ok () w1 := q1
  have HC1 : C3 w.heap.size d.1.1 d.1.2 d.2 w1 := (show C3 w.heap.size d.1.1 d.1.2 d.2 W.drew from HC).blk (hc1.block _ hlt (fun e => (HO.mapB _ Om.mem_db).noCell (by subst e; exact HC.1)))
  have HB1 : Ch (fun k => k ∈ omBs kb ab db sb AL) w w1 := HB.drew.trans hc1 (fun k hk e => by have e : k = db := e; subst e; exact Om.mem_db)
  have hN1 : N ≤ w1.heap.size := by have := hc1.size; simp at this; omega
  have hlt1 : w.heap.size < w1.heap.size := by have := hc1.size; simp at this; omega
  have S0 := Lib.hid (KvS.of HO.drew.blk HC)
  have S1 := Lib.hid (KvS.of HO1.blk HC1)
  obtain ⟨x, hx1, hx2, hx3⟩ := keptAt K d
  have lk := Lib.hid (fun (w' : World) (h' : Om w' N m kb ab db sv sb K AL (d :: D.filter fun y => decide (y ≠ d)) M) => hx1 ▸ h'.look_kept okd)
  generalize hok : mvhas (keptV K) d = ok at *
  have HX := Lib.hid (And.intro hx2 hx3)
  have b2 := (Below.refl w1.heap.size w1).drew.alloc (Nat.le_refl _) (.cells zeroE' 59)
  have HO2 := HO1.up b2
  have HC2 : C3 w.heap.size d.1.1 d.1.2 d.2 (w1.drew.alloc (.cells zeroE' 59)) := HC1.up hlt1 b2
  have HZ := Whole.new w1.drew 59 zeroE'
  have hN2 : N ≤ (w1.drew.alloc (.cells zeroE' 59)).heap.size := by have := b2.size; omega
  have S2 := Lib.hid (KvS.of HO1.drew.blk HC1)
  have S3 := Lib.hid (KvS.of HO2.blk HC2)
  clear hx1 hx2 hx3 hc1 HB HC HO
  show Calls _ _ #[_, .agg #[.int .i64 d.1.1, .int .i64 d.1.2, .int .i64 d.2]] _ _
  go_enter Tryz.func51, Tryz.ntmps51
  go_wp2_with fail
  rw [HWW.out]
  generalize w.heap.size = E at *
  refine wp_region_held_drew (S := (fun W => W.cell? ⟨m, 0, none⟩ = some (.map (some kb)) ∧ W.cell? ⟨m, 1, none⟩ = some (.map (some ab)) ∧ W.cell? ⟨m, 2, none⟩ = some (.map (some db)) ∧ W.cell? ⟨E, 0, none⟩ = some (.int .i64 d.1.1) ∧ W.cell? ⟨E, 1, none⟩ = some (.int .i64 d.1.2) ∧ W.cell? ⟨E, 2, none⟩ = some (.int .i64 d.2))) (by kernel_rfl) ?_ (fun hHeld => ?_)
  · (try dsimp only); exact S0.out
  refine wpAnyH_take (i := 0) (v := ?_) rfl (by kernel_rfl) (by kernel_rfl) (by kernel_rfl) (fun _ _ _ h => h) (Or.inl ⟨by rfl, ?_⟩) (by assumption) ?_
  rotate_left
  first | (focus ((intro w hSw; (try dsimp only at hSw); go_simp); (try with_reducible rfl); done)) | fail
  try simp only [Act.put, List.getElem_toArray, List.getElem_cons_zero, List.setIfInBounds_toArray, List.set_cons_zero, List.set_cons_succ]
  refine wpAnyH_take (i := 1) (v := ?_) rfl (by kernel_rfl) (by kernel_rfl) (by kernel_rfl) (fun _ _ _ h => h) (Or.inl ⟨by rfl, ?_⟩) (by assumption) ?_
  rotate_left
  first | (focus ((intro w hSw; (try dsimp only at hSw); go_simp); (try with_reducible rfl); done)) | fail
  try simp only [Act.put, List.getElem_toArray, List.getElem_cons_zero, List.getElem_cons_succ, List.setIfInBounds_toArray, List.set_cons_zero, List.set_cons_succ]
  refine wpAnyH_take (i := 2) (v := ?_) rfl (by kernel_rfl) (by kernel_rfl) (by kernel_rfl) (fun _ _ _ h => h) (Or.inl ⟨by rfl, ?_⟩) (by assumption) ?_
  rotate_left
  first | (focus ((intro w hSw; (try dsimp only at hSw); go_simp); (try with_reducible rfl); done)) | fail
  try simp only [Act.put, List.getElem_toArray, List.getElem_cons_zero, List.getElem_cons_succ, List.setIfInBounds_toArray, List.set_cons_zero, List.set_cons_succ]
  refine wpAnyH_take (i := 3) (v := ?_) rfl (by kernel_rfl) (by kernel_rfl) (by kernel_rfl) (fun _ _ _ h => h) (Or.inl ⟨by rfl, ?_⟩) (by assumption) ?_
  rotate_left
  first | (focus ((intro w hSw; (try dsimp only at hSw); go_simp); (try with_reducible rfl); done)) | fail
  try simp only [Act.put, List.getElem_toArray, List.getElem_cons_zero, List.getElem_cons_succ, List.setIfInBounds_toArray, List.set_cons_zero, List.set_cons_succ]
  refine wpAnyH_take (i := 4) (v := ?_) rfl (by kernel_rfl) (by kernel_rfl) (by kernel_rfl) (fun _ _ _ h => h) (Or.inl ⟨by rfl, ?_⟩) (by assumption) ?_
  rotate_left
  first | (focus ((intro w hSw; (try dsimp only at hSw); go_simp); (try with_reducible rfl); done)) | fail
  try simp only [Act.put, List.getElem_toArray, List.getElem_cons_zero, List.getElem_cons_succ, List.setIfInBounds_toArray, List.set_cons_zero, List.set_cons_succ]
  refine wpAnyH_ready (rs := [5]) (by kernel_rfl) (by simp) ?_
  refine AllReadyH.cons rfl (fun K hK => ?_) AllReadyH.nil
  go_simp
  refine hK.out _ _ ?_ (fun hHeld => ?_)
  · (try dsimp only); exact S1.out
  clear hK K
  try simp only [Act.put, List.getElem_toArray, List.getElem_cons_zero, List.getElem_cons_succ, List.setIfInBounds_toArray, List.set_cons_zero, List.set_cons_succ]
  refine wpAnyH_done (by kernel_rfl) ?_ _
  clear q1
  go_wp2_with fail
  refine wp_region_held_drew (S := (fun W => W.cell? ⟨m, 0, none⟩ = some (.map (some kb)) ∧ W.cell? ⟨m, 1, none⟩ = some (.map (some ab)) ∧ W.cell? ⟨m, 2, none⟩ = some (.map (some db)) ∧ W.cell? ⟨E, 0, none⟩ = some (.int .i64 d.1.1) ∧ W.cell? ⟨E, 1, none⟩ = some (.int .i64 d.1.2) ∧ W.cell? ⟨E, 2, none⟩ = some (.int .i64 d.2) ∧ (Instr.lookup 89 (.map (some kb)) (.agg #[.int .i64 d.1.1, .int .i64 d.1.2, .int .i64 d.2]) true).run Tryz.prog W = .ok (.tuple #[.agg (evA x.e x.A x.c), .bool ok]) W)) (by kernel_rfl) ?_ (fun hHeld => ?_)
  · (try dsimp only); exact ⟨S2.out.1, S2.out.2.1, S2.out.2.2.1, S2.out.2.2.2.1, S2.out.2.2.2.2.1, S2.out.2.2.2.2.2, lk.out _ HO1.drew⟩
  refine wpAnyH_take (i := 0) (v := ?_) rfl (by kernel_rfl) (by kernel_rfl) (by kernel_rfl) (fun _ _ _ h => h) (Or.inl ⟨by rfl, ?_⟩) (by assumption) ?_
  rotate_left
  first | (focus ((intro w hSw; (try dsimp only at hSw); go_simp); (try with_reducible rfl); done)) | fail
  try simp only [Act.put, List.getElem_toArray, List.getElem_cons_zero, List.setIfInBounds_toArray, List.set_cons_zero, List.set_cons_succ]
  refine wpAnyH_take (i := 1) (v := ?_) rfl (by kernel_rfl) (by kernel_rfl) (by kernel_rfl) (fun _ _ _ h => h) (Or.inl ⟨by rfl, ?_⟩) (by assumption) ?_
  rotate_left
  first | (focus ((intro w hSw; (try dsimp only at hSw); go_simp); (try with_reducible rfl); done)) | fail
  try simp only [Act.put, List.getElem_toArray, List.getElem_cons_zero, List.getElem_cons_succ, List.setIfInBounds_toArray, List.set_cons_zero, List.set_cons_succ]
  refine wpAnyH_take (i := 2) (v := ?_) rfl (by kernel_rfl) (by kernel_rfl) (by kernel_rfl) (fun _ _ _ h => h) (Or.inl ⟨by rfl, ?_⟩) (by assumption) ?_
  rotate_left
  first | (focus ((intro w hSw; (try dsimp only at hSw); go_simp); (try with_reducible rfl); done)) | fail
  try simp only [Act.put, List.getElem_toArray, List.getElem_cons_zero, List.getElem_cons_succ, List.setIfInBounds_toArray, List.set_cons_zero, List.set_cons_succ]
  refine wpAnyH_take (i := 3) (v := ?_) rfl (by kernel_rfl) (by kernel_rfl) (by kernel_rfl) (fun _ _ _ h => h) (Or.inl ⟨by rfl, ?_⟩) (by assumption) ?_
  rotate_left
  first | (focus ((intro w hSw; (try dsimp only at hSw); go_simp); (try with_reducible rfl); done)) | fail
  try simp only [Act.put, List.getElem_toArray, List.getElem_cons_zero, List.getElem_cons_succ, List.setIfInBounds_toArray, List.set_cons_zero, List.set_cons_succ]
  refine wpAnyH_take (i := 4) (v := ?_) rfl (by kernel_rfl) (by kernel_rfl) (by kernel_rfl) (fun _ _ _ h => h) (Or.inl ⟨by rfl, ?_⟩) (by assumption) ?_
  rotate_left
  first | (focus ((intro w hSw; (try dsimp only at hSw); go_simp); (try with_reducible rfl); done)) | fail
  try simp only [Act.put, List.getElem_toArray, List.getElem_cons_zero, List.getElem_cons_succ, List.setIfInBounds_toArray, List.set_cons_zero, List.set_cons_succ]
  refine wpAnyH_take (i := 5) (v := ?_) rfl (by kernel_rfl) (by kernel_rfl) (by kernel_rfl) (fun _ _ _ h => h) (Or.inl ⟨by rfl, ?_⟩) (by assumption) ?_
  rotate_left
  first | (focus ((intro w hSw; (try dsimp only at hSw); go_simp); (try with_reducible rfl); done)) | fail
  try simp only [Act.put, List.getElem_toArray, List.getElem_cons_zero, List.getElem_cons_succ, List.setIfInBounds_toArray, List.set_cons_zero, List.set_cons_succ]
  refine wpAnyH_take (i := 6) (v := ?_) rfl (by kernel_rfl) (by kernel_rfl) (by kernel_rfl) (fun _ _ _ h => h) (Or.inl ⟨by rfl, ?_⟩) (by assumption) ?_
  rotate_left
  first | (focus ((intro w hSw; (try dsimp only at hSw); go_simp); (try with_reducible rfl); done)) | fail
  try simp only [Act.put, List.getElem_toArray, List.getElem_cons_zero, List.getElem_cons_succ, List.setIfInBounds_toArray, List.set_cons_zero, List.set_cons_succ]
  refine wpAnyH_take (i := 7) (v := ?_) rfl (by kernel_rfl) (by kernel_rfl) (by kernel_rfl) (fun _ _ _ h => h) (Or.inl ⟨by rfl, ?_⟩) (by assumption) ?_
  rotate_left
  first | (focus ((intro w hSw; (try dsimp only at hSw); go_simp); (try with_reducible rfl); done)) | fail
  try simp only [Act.put, List.getElem_toArray, List.getElem_cons_zero, List.getElem_cons_succ, List.setIfInBounds_toArray, List.set_cons_zero, List.set_cons_succ]
  refine wpAnyH_take (i := 8) (v := ?_) rfl (by kernel_rfl) (by kernel_rfl) (by kernel_rfl) (fun _ _ _ h => h) (Or.inl ⟨by rfl, ?_⟩) (by assumption) ?_
  rotate_left
  first | (focus ((intro w hSw; (try dsimp only at hSw); go_simp); (try with_reducible rfl); done)) | fail
  try simp only [Act.put, List.getElem_toArray, List.getElem_cons_zero, List.getElem_cons_succ, List.setIfInBounds_toArray, List.set_cons_zero, List.set_cons_succ]
  refine wpAnyH_ready (rs := [9]) (by kernel_rfl) (by simp) ?_
  refine AllReadyH.cons rfl (fun K hK => ?_) AllReadyH.nil
  go_simp
  refine hK.out _ _ ?_ (fun hHeld => ?_)
  · (try dsimp only); exact ⟨S3.out.1, S3.out.2.1, S3.out.2.2.1, S3.out.2.2.2.1, S3.out.2.2.2.2.1, S3.out.2.2.2.2.2, lk.out _ HO2⟩
  clear hK K
  try simp only [Act.put, List.getElem_toArray, List.getElem_cons_zero, List.getElem_cons_succ, List.setIfInBounds_toArray, List.set_cons_zero, List.set_cons_succ]
  refine wpAnyH_ready (rs := [10]) (by kernel_rfl) (by simp) ?_
  refine AllReadyH.cons rfl (fun K hK => ?_) AllReadyH.nil
  refine step_store (by rfl) _ _ rfl rfl rfl HZ (by rfl) (by kernel_rfl) (by rfl) ?_; intro W4 hX4 hC4 hz4; have b4 := b2.trans (hC4.below (B := w1.heap.size) (fun k hk e => by have e : k = w1.heap.size := e; omega) (by simp)); have S4 := KvS.of (HO1.up b4).blk (HC1.up hlt1 b4)
  refine hK.out _ _ ?_ (fun hHeld => ?_)
  · (try dsimp only); exact ⟨S4.1, S4.2.1, S4.2.2.1, S4.2.2.2.1, S4.2.2.2.2.1, S4.2.2.2.2.2, lk.out _ (HO1.up b4)⟩
  clear hK K
  try simp only [Act.put, List.getElem_toArray, List.getElem_cons_zero, List.getElem_cons_succ, List.setIfInBounds_toArray, List.set_cons_zero, List.set_cons_succ]
  refine wpAnyH_take (i := 11) (v := ?_) rfl (by kernel_rfl) (by kernel_rfl) (by kernel_rfl) (fun _ _ _ h => h) (Or.inl ⟨by rfl, ?_⟩) (by assumption) ?_
  rotate_left
  first | (focus ((intro w hSw; (try dsimp only at hSw); go_simp); (try with_reducible rfl); done)) | fail
  try simp only [Act.put, List.getElem_toArray, List.getElem_cons_zero, List.getElem_cons_succ, List.setIfInBounds_toArray, List.set_cons_zero, List.set_cons_succ]
  refine wpAnyH_done (by kernel_rfl) ?_ _
  have HO4 := HO1.up b4
  have HC4 := HC1.up hlt1 b4
  have HB4 : Ch (fun k => k ∈ omBs kb ab db sb AL) w W4 := HB1.trans (below_ch (S := fun _ => False) b4) (fun k _ h => h.elim)
  have hN4 : N ≤ W4.heap.size := Nat.le_trans hN1 b4.size
  have hX4 : Whole W4 w1.heap.size 59 (evA x.e x.A x.c) := hX4
  generalize w1.heap.size = F at *
  have c6 : W4.cell? ⟨F, 6, none⟩ = some (.int .i64 x.e.kind) := by rw [hX4.cell]; rfl
  clear HB1 S0 S1 S2 S3 S4 lk b2 b4 HO1 HC1 HO2 HC2 HZ hN1 hN2 hN' hlt hlt1 hC4 hz4
  obtain ⟨hin, hky, hne, hle, hnd⟩ := HH.out
  cases ok with
  | false =>
    have hE := Lib.hid (show KillE w N m kb ab db sv sb K AL D M d n (.returned (.tuple #[])) W4 from ⟨rfl, AL, HO4, hne, hle, fun ky d' => ⟨fun h => ⟨h, fun e => by obtain ⟨y, hy, _, hd, _⟩ := hin _ _ h; exact HX.out.2 rfl y hy (hd.trans e)⟩, fun h => h.1⟩, HB4⟩)
    clear hin hky hne hle hnd HO4 HC4 HB4
    go_wp2
    first | go_end0 | refine bodyPost_ret (results_none rfl _ _ _) rfl ?_
    exact hE.out
  | true =>
    obtain ⟨hxK, hxd⟩ := HX.out.1 rfl
    by_cases hk : x.e.kind = 1
    · rw [hk] at c6
      have hS4 := Lib.hid (KfS.of HO4.drew.blk HC4 hX4.drew)
      by_cases hp : ∃ p ∈ AL, p.1 = kyE x.e
      · obtain ⟨p, hp, hpk⟩ := hp
        obtain ⟨A1, A2, hA⟩ := List.append_of_mem hp
        have hAk := HO4.alive.2.1
        rw [hA] at hAk
        obtain ⟨hu, hfl⟩ := al_keys hAk
        have lk1 : (Instr.lookup 90 (.map (some ab)) (.agg #[.string (bs x.e.name), .string (bs x.e.dom), .string (bs x.e.path)]) false).run Tryz.prog W4.drew = .ok (.map (some p.2.1)) W4.drew := by have := HO4.drew.look_yes hp; rw [hpk] at this; exact this
        obtain ⟨w5, q5, HO5, hc5⟩ := HO4.drew.take_ hA okd (0 : TypeId)
        have q5 : (Builtin.delete_ #[91, 50] 0 #[.map (some p.2.1), .agg #[.int .i64 d.1.1, .int .i64 d.1.2, .int .i64 d.2]]).run Tryz.prog W4.drew = .ok (.tuple #[]) w5 := q5
        have HC5 : C3 E d.1.1 d.1.2 d.2 w5 := (show C3 E d.1.1 d.1.2 d.2 W4.drew from HC4).blk (hc5.block _ (World.block_lt_of_cell? _ _ HC4.1) (fun e => (HO4.mapB _ (Om.mem_in hp)).noCell (by subst e; exact HC4.1)))
        have hX5 := hX4.drew.ch hc5 (fun e => (HO4.mapB _ (Om.mem_in hp)).neWhole hX4 e)
        have hB5 : Ch (fun k => k ∈ omBs kb ab db sb AL) w w5 := HB4.drew.trans hc5 (fun k hk e => by have e : k = p.2.1 := e; subst e; exact Om.mem_in hp)
        have hN5 : N ≤ w5.heap.size := Nat.le_trans hN4 hc5.size
        have hS5 := Lib.hid (KfS.of HO5.blk HC5 hX5)
        have hS5' := Lib.hid (KfS.of HO5.drew.blk HC5 hX5.drew)
        have hm5 : (p.1, p.2.1, p.2.2.filter fun y => decide (y ≠ d)) ∈ A1 ++ (p.1, p.2.1, p.2.2.filter fun y => decide (y ≠ d)) :: A2 := by simp
        have lk2 : (Instr.lookup 90 (.map (some ab)) (.agg #[.string (bs x.e.name), .string (bs x.e.dom), .string (bs x.e.path)]) false).run Tryz.prog w5.drew = .ok (.map (some p.2.1)) w5.drew := by have := HO5.drew.look_yes hm5; rw [hpk] at this; exact this
        have ln2 : (Builtin.len_ #[91] 3 #[.map (some p.2.1)]).run Tryz.prog w5.drew = .ok (.int .i64 (p.2.2.filter fun y => decide (y ≠ d)).length) w5.drew := HO5.drew.len_in hm5 _
        have htk := fun ky' d' => alHas_take (A1 := A1) (A2 := A2) (p := p) (d := d) (fun ky h => by
          rw [← hA] at h
          obtain ⟨y, hy, _, hd, hy2⟩ := hin _ _ h
          rw [← kept_one hnd hxK hy (hxd.trans hd.symm)] at hy2
          rw [← hy2, hpk]) hu ky' d'
        by_cases hL : (p.2.2.filter fun y => decide (y ≠ d)) = []
        · obtain ⟨w6, q6, HO6, hc6⟩ := HO5.drew.drew.dropKey (hky x hxK) (0 : TypeId)
          have q6 : (Builtin.delete_ #[90, 54] 0 #[.map (some ab), .agg #[.string (bs x.e.name), .string (bs x.e.dom), .string (bs x.e.path)]]).run Tryz.prog w5.drew.drew = .ok (.tuple #[]) w6 := q6
          rw [← hpk, hfl] at HO6
          have hS6 := Lib.hid (KfS.of HO6.blk ((show C3 E d.1.1 d.1.2 d.2 w5.drew.drew from HC5).blk (hc6.block _ (World.block_lt_of_cell? _ _ HC5.1) (fun e => (HO5.mapB _ Om.mem_ab).noCell (by subst e; exact HC5.1)))) (hX5.drew.drew.ch hc6 (fun e => (HO5.mapB _ Om.mem_ab).neWhole hX5 e)))
          have hS5'' := Lib.hid (KfS.of HO5.drew.drew.blk HC5 hX5.drew.drew)
          have hE := Lib.hid (show KillE w N m kb ab db sv sb K AL D M d n (.returned (.tuple #[])) w6 from ⟨rfl, A1 ++ A2, HO6,
            fun r hr => hne r (by rw [hA]; rcases List.mem_append.1 hr with hr | hr; exact List.mem_append_left _ hr; exact List.mem_append_right _ (List.mem_cons_of_mem _ hr)),
            ⟨by have := hle.1; rw [hA] at this; simp at this ⊢; omega, fun r hr => hle.2 r (by rw [hA]; rcases List.mem_append.1 hr with hr | hr; exact List.mem_append_left _ hr; exact List.mem_append_right _ (List.mem_cons_of_mem _ hr))⟩,
            fun ky' d' => by rw [alHas_none (p := (p.1, p.2.1, p.2.2.filter fun y => decide (y ≠ d))) hL, htk, hA],
            hB5.drew.drew.trans hc6 (fun k hk e => by have e : k = ab := e; subst e; exact Om.mem_ab)⟩)
          rw [hL] at ln2
          clear hin hky hne hle hnd HO4 HC4 HB4 HO5 HC5 hB5 HO6 hc5 hc6 hX5 htk hfl hu hAk hA hp hpk hxd hxK HX HH hm5 hL
          go_wp2_with fail
          refine wp_region_held_drew (S := (fun W => W.cell? ⟨m, 1, none⟩ = some (.map (some ab)) ∧ W.cell? ⟨E, 0, none⟩ = some (.int .i64 d.1.1) ∧ W.cell? ⟨E, 1, none⟩ = some (.int .i64 d.1.2) ∧ W.cell? ⟨E, 2, none⟩ = some (.int .i64 d.2) ∧ W.cell? ⟨F, 7, none⟩ = some (.string (bs x.e.name)) ∧ W.cell? ⟨F, 8, none⟩ = some (.string (bs x.e.dom)) ∧ W.cell? ⟨F, 9, none⟩ = some (.string (bs x.e.path)))) (by kernel_rfl) ?_ (fun hHeld => ?_)
          · (try dsimp only); exact hS4.out
          refine wpAnyH_take (i := 0) (v := ?_) rfl (by kernel_rfl) (by kernel_rfl) (by kernel_rfl) (fun _ _ _ h => h) (Or.inl ⟨by rfl, ?_⟩) (by assumption) ?_
          rotate_left
          first | (focus ((intro w hSw; (try dsimp only at hSw); go_simp); (try with_reducible rfl); done)) | fail
          try simp only [Act.put, List.getElem_toArray, List.getElem_cons_zero, List.setIfInBounds_toArray, List.set_cons_zero, List.set_cons_succ]
          refine wpAnyH_take (i := 1) (v := ?_) rfl (by kernel_rfl) (by kernel_rfl) (by kernel_rfl) (fun _ _ _ h => h) (Or.inl ⟨by rfl, ?_⟩) (by assumption) ?_
          rotate_left
          first | (focus ((intro w hSw; (try dsimp only at hSw); go_simp); (try with_reducible rfl); done)) | fail
          try simp only [Act.put, List.getElem_toArray, List.getElem_cons_zero, List.getElem_cons_succ, List.setIfInBounds_toArray, List.set_cons_zero, List.set_cons_succ]
          refine wpAnyH_take (i := 2) (v := ?_) rfl (by kernel_rfl) (by kernel_rfl) (by kernel_rfl) (fun _ _ _ h => h) (Or.inl ⟨by rfl, ?_⟩) (by assumption) ?_
          rotate_left
          first | (focus ((intro w hSw; (try dsimp only at hSw); go_simp); (try with_reducible rfl); done)) | fail
          try simp only [Act.put, List.getElem_toArray, List.getElem_cons_zero, List.getElem_cons_succ, List.setIfInBounds_toArray, List.set_cons_zero, List.set_cons_succ]
          refine wpAnyH_take (i := 3) (v := ?_) rfl (by kernel_rfl) (by kernel_rfl) (by kernel_rfl) (fun _ _ _ h => h) (Or.inl ⟨by rfl, ?_⟩) (by assumption) ?_
          rotate_left
          first | (focus ((intro w hSw; (try dsimp only at hSw); go_simp); (try with_reducible rfl); done)) | fail
          try simp only [Act.put, List.getElem_toArray, List.getElem_cons_zero, List.getElem_cons_succ, List.setIfInBounds_toArray, List.set_cons_zero, List.set_cons_succ]
          refine wpAnyH_take (i := 4) (v := ?_) rfl (by kernel_rfl) (by kernel_rfl) (by kernel_rfl) (fun _ _ _ h => h) (Or.inl ⟨by rfl, ?_⟩) (by assumption) ?_
          rotate_left
          first | (focus ((intro w hSw; (try dsimp only at hSw); go_simp); (try with_reducible rfl); done)) | fail
          try simp only [Act.put, List.getElem_toArray, List.getElem_cons_zero, List.getElem_cons_succ, List.setIfInBounds_toArray, List.set_cons_zero, List.set_cons_succ]
          refine wpAnyH_take (i := 5) (v := ?_) rfl (by kernel_rfl) (by kernel_rfl) (by kernel_rfl) (fun _ _ _ h => h) (Or.inl ⟨by rfl, ?_⟩) (by assumption) ?_
          rotate_left
          first | (focus ((intro w hSw; (try dsimp only at hSw); go_simp); (try with_reducible rfl); done)) | fail
          try simp only [Act.put, List.getElem_toArray, List.getElem_cons_zero, List.getElem_cons_succ, List.setIfInBounds_toArray, List.set_cons_zero, List.set_cons_succ]
          refine wpAnyH_take (i := 7) (v := ?_) rfl (by kernel_rfl) (by kernel_rfl) (by kernel_rfl) (fun _ _ _ h => h) (Or.inl ⟨by rfl, ?_⟩) (by assumption) ?_
          rotate_left
          first | (focus ((intro w hSw; (try dsimp only at hSw); go_simp); (try with_reducible rfl); done)) | fail
          try simp only [Act.put, List.getElem_toArray, List.getElem_cons_zero, List.getElem_cons_succ, List.setIfInBounds_toArray, List.set_cons_zero, List.set_cons_succ]
          refine wpAnyH_ready (rs := [6]) (by kernel_rfl) (by simp) ?_
          refine AllReadyH.cons rfl (fun K hK => ?_) AllReadyH.nil
          go_simp
          refine hK.out _ _ ?_ (fun hHeld => ?_)
          · (try dsimp only); exact hS4.out
          clear hK K
          try simp only [Act.put, List.getElem_toArray, List.getElem_cons_zero, List.getElem_cons_succ, List.setIfInBounds_toArray, List.set_cons_zero, List.set_cons_succ]
          refine wpAnyH_ready (rs := [8]) (by kernel_rfl) (by simp) ?_
          refine AllReadyH.cons rfl (fun K hK => ?_) AllReadyH.nil
          go_simp
          refine hK.out _ _ ?_ (fun hHeld => ?_)
          · (try dsimp only); exact hS5.out
          clear hK K
          try simp only [Act.put, List.getElem_toArray, List.getElem_cons_zero, List.getElem_cons_succ, List.setIfInBounds_toArray, List.set_cons_zero, List.set_cons_succ]
          refine wpAnyH_done (by kernel_rfl) ?_ _
          go_wp2_with fail
          refine wp_region_held_drew (S := (fun W => W.cell? ⟨m, 1, none⟩ = some (.map (some ab)) ∧ W.cell? ⟨E, 0, none⟩ = some (.int .i64 d.1.1) ∧ W.cell? ⟨E, 1, none⟩ = some (.int .i64 d.1.2) ∧ W.cell? ⟨E, 2, none⟩ = some (.int .i64 d.2) ∧ W.cell? ⟨F, 7, none⟩ = some (.string (bs x.e.name)) ∧ W.cell? ⟨F, 8, none⟩ = some (.string (bs x.e.dom)) ∧ W.cell? ⟨F, 9, none⟩ = some (.string (bs x.e.path)))) (by kernel_rfl) ?_ (fun hHeld => ?_)
          · (try dsimp only); exact hS5'.out
          refine wpAnyH_take (i := 0) (v := ?_) rfl (by kernel_rfl) (by kernel_rfl) (by kernel_rfl) (fun _ _ _ h => h) (Or.inl ⟨by rfl, ?_⟩) (by assumption) ?_
          rotate_left
          first | (focus ((intro w hSw; (try dsimp only at hSw); go_simp); (try with_reducible rfl); done)) | fail
          try simp only [Act.put, List.getElem_toArray, List.getElem_cons_zero, List.setIfInBounds_toArray, List.set_cons_zero, List.set_cons_succ]
          refine wpAnyH_take (i := 1) (v := ?_) rfl (by kernel_rfl) (by kernel_rfl) (by kernel_rfl) (fun _ _ _ h => h) (Or.inl ⟨by rfl, ?_⟩) (by assumption) ?_
          rotate_left
          first | (focus ((intro w hSw; (try dsimp only at hSw); go_simp); (try with_reducible rfl); done)) | fail
          try simp only [Act.put, List.getElem_toArray, List.getElem_cons_zero, List.getElem_cons_succ, List.setIfInBounds_toArray, List.set_cons_zero, List.set_cons_succ]
          refine wpAnyH_take (i := 2) (v := ?_) rfl (by kernel_rfl) (by kernel_rfl) (by kernel_rfl) (fun _ _ _ h => h) (Or.inl ⟨by rfl, ?_⟩) (by assumption) ?_
          rotate_left
          first | (focus ((intro w hSw; (try dsimp only at hSw); go_simp); (try with_reducible rfl); done)) | fail
          try simp only [Act.put, List.getElem_toArray, List.getElem_cons_zero, List.getElem_cons_succ, List.setIfInBounds_toArray, List.set_cons_zero, List.set_cons_succ]
          refine wpAnyH_take (i := 3) (v := ?_) rfl (by kernel_rfl) (by kernel_rfl) (by kernel_rfl) (fun _ _ _ h => h) (Or.inl ⟨by rfl, ?_⟩) (by assumption) ?_
          rotate_left
          first | (focus ((intro w hSw; (try dsimp only at hSw); go_simp); (try with_reducible rfl); done)) | fail
          try simp only [Act.put, List.getElem_toArray, List.getElem_cons_zero, List.getElem_cons_succ, List.setIfInBounds_toArray, List.set_cons_zero, List.set_cons_succ]
          refine wpAnyH_take (i := 4) (v := ?_) rfl (by kernel_rfl) (by kernel_rfl) (by kernel_rfl) (fun _ _ _ h => h) (Or.inl ⟨by rfl, ?_⟩) (by assumption) ?_
          rotate_left
          first | (focus ((intro w hSw; (try dsimp only at hSw); go_simp); (try with_reducible rfl); done)) | fail
          try simp only [Act.put, List.getElem_toArray, List.getElem_cons_zero, List.getElem_cons_succ, List.setIfInBounds_toArray, List.set_cons_zero, List.set_cons_succ]
          refine wpAnyH_take (i := 5) (v := ?_) rfl (by kernel_rfl) (by kernel_rfl) (by kernel_rfl) (fun _ _ _ h => h) (Or.inl ⟨by rfl, ?_⟩) (by assumption) ?_
          rotate_left
          first | (focus ((intro w hSw; (try dsimp only at hSw); go_simp); (try with_reducible rfl); done)) | fail
          try simp only [Act.put, List.getElem_toArray, List.getElem_cons_zero, List.getElem_cons_succ, List.setIfInBounds_toArray, List.set_cons_zero, List.set_cons_succ]
          refine wpAnyH_ready (rs := [6]) (by kernel_rfl) (by simp) ?_
          refine AllReadyH.cons rfl (fun K hK => ?_) AllReadyH.nil
          go_simp
          refine hK.out _ _ ?_ (fun hHeld => ?_)
          · (try dsimp only); exact hS5'.out
          clear hK K
          try simp only [Act.put, List.getElem_toArray, List.getElem_cons_zero, List.getElem_cons_succ, List.setIfInBounds_toArray, List.set_cons_zero, List.set_cons_succ]
          refine wpAnyH_ready (rs := [7]) (by kernel_rfl) (by simp) ?_
          refine AllReadyH.cons rfl (fun K hK => ?_) AllReadyH.nil
          go_simp
          refine hK.out _ _ ?_ (fun hHeld => ?_)
          · (try dsimp only); exact hS5'.out
          clear hK K
          try simp only [Act.put, List.getElem_toArray, List.getElem_cons_zero, List.getElem_cons_succ, List.setIfInBounds_toArray, List.set_cons_zero, List.set_cons_succ]
          refine wpAnyH_take (i := 8) (v := ?_) rfl (by kernel_rfl) (by kernel_rfl) (by kernel_rfl) (fun _ _ _ h => h) (Or.inl ⟨by rfl, ?_⟩) (by assumption) ?_
          rotate_left
          first | (focus ((intro w hSw; (try dsimp only at hSw); go_simp); (try with_reducible rfl); done)) | fail
          try simp only [Act.put, List.getElem_toArray, List.getElem_cons_zero, List.getElem_cons_succ, List.setIfInBounds_toArray, List.set_cons_zero, List.set_cons_succ]
          refine wpAnyH_done (by kernel_rfl) ?_ _
          go_wp2_with fail
          refine wp_region_held_drew (S := (fun W => W.cell? ⟨m, 1, none⟩ = some (.map (some ab)) ∧ W.cell? ⟨E, 0, none⟩ = some (.int .i64 d.1.1) ∧ W.cell? ⟨E, 1, none⟩ = some (.int .i64 d.1.2) ∧ W.cell? ⟨E, 2, none⟩ = some (.int .i64 d.2) ∧ W.cell? ⟨F, 7, none⟩ = some (.string (bs x.e.name)) ∧ W.cell? ⟨F, 8, none⟩ = some (.string (bs x.e.dom)) ∧ W.cell? ⟨F, 9, none⟩ = some (.string (bs x.e.path)))) (by kernel_rfl) ?_ (fun hHeld => ?_)
          · (try dsimp only); exact hS5''.out
          refine wpAnyH_take (i := 0) (v := ?_) rfl (by kernel_rfl) (by kernel_rfl) (by kernel_rfl) (fun _ _ _ h => h) (Or.inl ⟨by rfl, ?_⟩) (by assumption) ?_
          rotate_left
          first | (focus ((intro w hSw; (try dsimp only at hSw); go_simp); (try with_reducible rfl); done)) | fail
          try simp only [Act.put, List.getElem_toArray, List.getElem_cons_zero, List.setIfInBounds_toArray, List.set_cons_zero, List.set_cons_succ]
          refine wpAnyH_take (i := 1) (v := ?_) rfl (by kernel_rfl) (by kernel_rfl) (by kernel_rfl) (fun _ _ _ h => h) (Or.inl ⟨by rfl, ?_⟩) (by assumption) ?_
          rotate_left
          first | (focus ((intro w hSw; (try dsimp only at hSw); go_simp); (try with_reducible rfl); done)) | fail
          try simp only [Act.put, List.getElem_toArray, List.getElem_cons_zero, List.getElem_cons_succ, List.setIfInBounds_toArray, List.set_cons_zero, List.set_cons_succ]
          refine wpAnyH_take (i := 2) (v := ?_) rfl (by kernel_rfl) (by kernel_rfl) (by kernel_rfl) (fun _ _ _ h => h) (Or.inl ⟨by rfl, ?_⟩) (by assumption) ?_
          rotate_left
          first | (focus ((intro w hSw; (try dsimp only at hSw); go_simp); (try with_reducible rfl); done)) | fail
          try simp only [Act.put, List.getElem_toArray, List.getElem_cons_zero, List.getElem_cons_succ, List.setIfInBounds_toArray, List.set_cons_zero, List.set_cons_succ]
          refine wpAnyH_take (i := 3) (v := ?_) rfl (by kernel_rfl) (by kernel_rfl) (by kernel_rfl) (fun _ _ _ h => h) (Or.inl ⟨by rfl, ?_⟩) (by assumption) ?_
          rotate_left
          first | (focus ((intro w hSw; (try dsimp only at hSw); go_simp); (try with_reducible rfl); done)) | fail
          try simp only [Act.put, List.getElem_toArray, List.getElem_cons_zero, List.getElem_cons_succ, List.setIfInBounds_toArray, List.set_cons_zero, List.set_cons_succ]
          refine wpAnyH_take (i := 4) (v := ?_) rfl (by kernel_rfl) (by kernel_rfl) (by kernel_rfl) (fun _ _ _ h => h) (Or.inl ⟨by rfl, ?_⟩) (by assumption) ?_
          rotate_left
          first | (focus ((intro w hSw; (try dsimp only at hSw); go_simp); (try with_reducible rfl); done)) | fail
          try simp only [Act.put, List.getElem_toArray, List.getElem_cons_zero, List.getElem_cons_succ, List.setIfInBounds_toArray, List.set_cons_zero, List.set_cons_succ]
          refine wpAnyH_take (i := 5) (v := ?_) rfl (by kernel_rfl) (by kernel_rfl) (by kernel_rfl) (fun _ _ _ h => h) (Or.inl ⟨by rfl, ?_⟩) (by assumption) ?_
          rotate_left
          first | (focus ((intro w hSw; (try dsimp only at hSw); go_simp); (try with_reducible rfl); done)) | fail
          try simp only [Act.put, List.getElem_toArray, List.getElem_cons_zero, List.getElem_cons_succ, List.setIfInBounds_toArray, List.set_cons_zero, List.set_cons_succ]
          refine wpAnyH_ready (rs := [6]) (by kernel_rfl) (by simp) ?_
          refine AllReadyH.cons rfl (fun K hK => ?_) AllReadyH.nil
          go_simp
          refine hK.out _ _ ?_ (fun hHeld => ?_)
          · (try dsimp only); exact hS6.out
          clear hK K
          try simp only [Act.put, List.getElem_toArray, List.getElem_cons_zero, List.getElem_cons_succ, List.setIfInBounds_toArray, List.set_cons_zero, List.set_cons_succ]
          refine wpAnyH_done (by kernel_rfl) ?_ _
          go_wp2
          first | go_end0 | refine bodyPost_ret (results_none rfl _ _ _) rfl ?_
          exact hE.out
        · have hl0 : (p.2.2.filter fun y => decide (y ≠ d)).length ≠ 0 := fun e => hL (List.length_eq_zero_iff.1 e)
          have hE := Lib.hid (show KillE w N m kb ab db sv sb K AL D M d n (.returned (.tuple #[])) w5.drew from ⟨rfl, _, HO5.drew,
            fun r hr => by
              rcases List.mem_append.1 hr with hr | hr
              · exact hne r (by rw [hA]; exact List.mem_append_left _ hr)
              · rcases List.mem_cons.1 hr with rfl | hr
                · exact hL
                · exact hne r (by rw [hA]; exact List.mem_append_right _ (List.mem_cons_of_mem _ hr)),
            ⟨by have := hle.1; rw [hA] at this; simp at this ⊢; omega, fun r hr => by
              rcases List.mem_append.1 hr with hr | hr
              · exact hle.2 r (by rw [hA]; exact List.mem_append_left _ hr)
              · rcases List.mem_cons.1 hr with rfl | hr
                · exact Nat.le_trans (List.length_filter_le _ _) (hle.2 p hp)
                · exact hle.2 r (by rw [hA]; exact List.mem_append_right _ (List.mem_cons_of_mem _ hr))⟩,
            fun ky' d' => by rw [htk, hA],
            hB5.drew⟩)
          have t0 : decide (((p.2.2.filter fun y => decide (y ≠ d)).length : Int) = 0) = false := decide_eq_false (by omega)
          have t1 : (((p.2.2.filter fun y => decide (y ≠ d)).length : Int) == 0) = false := beq_eq_false_iff_ne.2 (by omega)
          generalize (p.2.2.filter fun y => decide (y ≠ d)).length = ll at ln2 t0 t1
          clear hin hky hne hle hnd HO4 HC4 HB4 HO5 HC5 hB5 hc5 hX5 htk hfl hu hAk hA hp hpk hxd hxK HX HH hm5 hL hl0
          go_wp2_with fail
          refine wp_region_held_drew (S := (fun W => W.cell? ⟨m, 1, none⟩ = some (.map (some ab)) ∧ W.cell? ⟨E, 0, none⟩ = some (.int .i64 d.1.1) ∧ W.cell? ⟨E, 1, none⟩ = some (.int .i64 d.1.2) ∧ W.cell? ⟨E, 2, none⟩ = some (.int .i64 d.2) ∧ W.cell? ⟨F, 7, none⟩ = some (.string (bs x.e.name)) ∧ W.cell? ⟨F, 8, none⟩ = some (.string (bs x.e.dom)) ∧ W.cell? ⟨F, 9, none⟩ = some (.string (bs x.e.path)))) (by kernel_rfl) ?_ (fun hHeld => ?_)
          · (try dsimp only); exact hS4.out
          refine wpAnyH_take (i := 0) (v := ?_) rfl (by kernel_rfl) (by kernel_rfl) (by kernel_rfl) (fun _ _ _ h => h) (Or.inl ⟨by rfl, ?_⟩) (by assumption) ?_
          rotate_left
          first | (focus ((intro w hSw; (try dsimp only at hSw); go_simp); (try with_reducible rfl); done)) | fail
          try simp only [Act.put, List.getElem_toArray, List.getElem_cons_zero, List.setIfInBounds_toArray, List.set_cons_zero, List.set_cons_succ]
          refine wpAnyH_take (i := 1) (v := ?_) rfl (by kernel_rfl) (by kernel_rfl) (by kernel_rfl) (fun _ _ _ h => h) (Or.inl ⟨by rfl, ?_⟩) (by assumption) ?_
          rotate_left
          first | (focus ((intro w hSw; (try dsimp only at hSw); go_simp); (try with_reducible rfl); done)) | fail
          try simp only [Act.put, List.getElem_toArray, List.getElem_cons_zero, List.getElem_cons_succ, List.setIfInBounds_toArray, List.set_cons_zero, List.set_cons_succ]
          refine wpAnyH_take (i := 2) (v := ?_) rfl (by kernel_rfl) (by kernel_rfl) (by kernel_rfl) (fun _ _ _ h => h) (Or.inl ⟨by rfl, ?_⟩) (by assumption) ?_
          rotate_left
          first | (focus ((intro w hSw; (try dsimp only at hSw); go_simp); (try with_reducible rfl); done)) | fail
          try simp only [Act.put, List.getElem_toArray, List.getElem_cons_zero, List.getElem_cons_succ, List.setIfInBounds_toArray, List.set_cons_zero, List.set_cons_succ]
          refine wpAnyH_take (i := 3) (v := ?_) rfl (by kernel_rfl) (by kernel_rfl) (by kernel_rfl) (fun _ _ _ h => h) (Or.inl ⟨by rfl, ?_⟩) (by assumption) ?_
          rotate_left
          first | (focus ((intro w hSw; (try dsimp only at hSw); go_simp); (try with_reducible rfl); done)) | fail
          try simp only [Act.put, List.getElem_toArray, List.getElem_cons_zero, List.getElem_cons_succ, List.setIfInBounds_toArray, List.set_cons_zero, List.set_cons_succ]
          refine wpAnyH_take (i := 4) (v := ?_) rfl (by kernel_rfl) (by kernel_rfl) (by kernel_rfl) (fun _ _ _ h => h) (Or.inl ⟨by rfl, ?_⟩) (by assumption) ?_
          rotate_left
          first | (focus ((intro w hSw; (try dsimp only at hSw); go_simp); (try with_reducible rfl); done)) | fail
          try simp only [Act.put, List.getElem_toArray, List.getElem_cons_zero, List.getElem_cons_succ, List.setIfInBounds_toArray, List.set_cons_zero, List.set_cons_succ]
          refine wpAnyH_take (i := 5) (v := ?_) rfl (by kernel_rfl) (by kernel_rfl) (by kernel_rfl) (fun _ _ _ h => h) (Or.inl ⟨by rfl, ?_⟩) (by assumption) ?_
          rotate_left
          first | (focus ((intro w hSw; (try dsimp only at hSw); go_simp); (try with_reducible rfl); done)) | fail
          try simp only [Act.put, List.getElem_toArray, List.getElem_cons_zero, List.getElem_cons_succ, List.setIfInBounds_toArray, List.set_cons_zero, List.set_cons_succ]
          refine wpAnyH_take (i := 7) (v := ?_) rfl (by kernel_rfl) (by kernel_rfl) (by kernel_rfl) (fun _ _ _ h => h) (Or.inl ⟨by rfl, ?_⟩) (by assumption) ?_
          rotate_left
          first | (focus ((intro w hSw; (try dsimp only at hSw); go_simp); (try with_reducible rfl); done)) | fail
          try simp only [Act.put, List.getElem_toArray, List.getElem_cons_zero, List.getElem_cons_succ, List.setIfInBounds_toArray, List.set_cons_zero, List.set_cons_succ]
          refine wpAnyH_ready (rs := [6]) (by kernel_rfl) (by simp) ?_
          refine AllReadyH.cons rfl (fun K hK => ?_) AllReadyH.nil
          go_simp
          refine hK.out _ _ ?_ (fun hHeld => ?_)
          · (try dsimp only); exact hS4.out
          clear hK K
          try simp only [Act.put, List.getElem_toArray, List.getElem_cons_zero, List.getElem_cons_succ, List.setIfInBounds_toArray, List.set_cons_zero, List.set_cons_succ]
          refine wpAnyH_ready (rs := [8]) (by kernel_rfl) (by simp) ?_
          refine AllReadyH.cons rfl (fun K hK => ?_) AllReadyH.nil
          go_simp
          refine hK.out _ _ ?_ (fun hHeld => ?_)
          · (try dsimp only); exact hS5.out
          clear hK K
          try simp only [Act.put, List.getElem_toArray, List.getElem_cons_zero, List.getElem_cons_succ, List.setIfInBounds_toArray, List.set_cons_zero, List.set_cons_succ]
          refine wpAnyH_done (by kernel_rfl) ?_ _
          go_wp2_with fail
          refine wp_region_held_drew (S := (fun W => W.cell? ⟨m, 1, none⟩ = some (.map (some ab)) ∧ W.cell? ⟨E, 0, none⟩ = some (.int .i64 d.1.1) ∧ W.cell? ⟨E, 1, none⟩ = some (.int .i64 d.1.2) ∧ W.cell? ⟨E, 2, none⟩ = some (.int .i64 d.2) ∧ W.cell? ⟨F, 7, none⟩ = some (.string (bs x.e.name)) ∧ W.cell? ⟨F, 8, none⟩ = some (.string (bs x.e.dom)) ∧ W.cell? ⟨F, 9, none⟩ = some (.string (bs x.e.path)))) (by kernel_rfl) ?_ (fun hHeld => ?_)
          · (try dsimp only); exact hS5'.out
          refine wpAnyH_take (i := 0) (v := ?_) rfl (by kernel_rfl) (by kernel_rfl) (by kernel_rfl) (fun _ _ _ h => h) (Or.inl ⟨by rfl, ?_⟩) (by assumption) ?_
          rotate_left
          first | (focus ((intro w hSw; (try dsimp only at hSw); go_simp); (try with_reducible rfl); done)) | fail
          try simp only [Act.put, List.getElem_toArray, List.getElem_cons_zero, List.setIfInBounds_toArray, List.set_cons_zero, List.set_cons_succ]
          refine wpAnyH_take (i := 1) (v := ?_) rfl (by kernel_rfl) (by kernel_rfl) (by kernel_rfl) (fun _ _ _ h => h) (Or.inl ⟨by rfl, ?_⟩) (by assumption) ?_
          rotate_left
          first | (focus ((intro w hSw; (try dsimp only at hSw); go_simp); (try with_reducible rfl); done)) | fail
          try simp only [Act.put, List.getElem_toArray, List.getElem_cons_zero, List.getElem_cons_succ, List.setIfInBounds_toArray, List.set_cons_zero, List.set_cons_succ]
          refine wpAnyH_take (i := 2) (v := ?_) rfl (by kernel_rfl) (by kernel_rfl) (by kernel_rfl) (fun _ _ _ h => h) (Or.inl ⟨by rfl, ?_⟩) (by assumption) ?_
          rotate_left
          first | (focus ((intro w hSw; (try dsimp only at hSw); go_simp); (try with_reducible rfl); done)) | fail
          try simp only [Act.put, List.getElem_toArray, List.getElem_cons_zero, List.getElem_cons_succ, List.setIfInBounds_toArray, List.set_cons_zero, List.set_cons_succ]
          refine wpAnyH_take (i := 3) (v := ?_) rfl (by kernel_rfl) (by kernel_rfl) (by kernel_rfl) (fun _ _ _ h => h) (Or.inl ⟨by rfl, ?_⟩) (by assumption) ?_
          rotate_left
          first | (focus ((intro w hSw; (try dsimp only at hSw); go_simp); (try with_reducible rfl); done)) | fail
          try simp only [Act.put, List.getElem_toArray, List.getElem_cons_zero, List.getElem_cons_succ, List.setIfInBounds_toArray, List.set_cons_zero, List.set_cons_succ]
          refine wpAnyH_take (i := 4) (v := ?_) rfl (by kernel_rfl) (by kernel_rfl) (by kernel_rfl) (fun _ _ _ h => h) (Or.inl ⟨by rfl, ?_⟩) (by assumption) ?_
          rotate_left
          first | (focus ((intro w hSw; (try dsimp only at hSw); go_simp); (try with_reducible rfl); done)) | fail
          try simp only [Act.put, List.getElem_toArray, List.getElem_cons_zero, List.getElem_cons_succ, List.setIfInBounds_toArray, List.set_cons_zero, List.set_cons_succ]
          refine wpAnyH_take (i := 5) (v := ?_) rfl (by kernel_rfl) (by kernel_rfl) (by kernel_rfl) (fun _ _ _ h => h) (Or.inl ⟨by rfl, ?_⟩) (by assumption) ?_
          rotate_left
          first | (focus ((intro w hSw; (try dsimp only at hSw); go_simp); (try with_reducible rfl); done)) | fail
          try simp only [Act.put, List.getElem_toArray, List.getElem_cons_zero, List.getElem_cons_succ, List.setIfInBounds_toArray, List.set_cons_zero, List.set_cons_succ]
          refine wpAnyH_ready (rs := [6]) (by kernel_rfl) (by simp) ?_
          refine AllReadyH.cons rfl (fun K hK => ?_) AllReadyH.nil
          go_simp
          refine hK.out _ _ ?_ (fun hHeld => ?_)
          · (try dsimp only); exact hS5'.out
          clear hK K
          try simp only [Act.put, List.getElem_toArray, List.getElem_cons_zero, List.getElem_cons_succ, List.setIfInBounds_toArray, List.set_cons_zero, List.set_cons_succ]
          refine wpAnyH_ready (rs := [7]) (by kernel_rfl) (by simp) ?_
          refine AllReadyH.cons rfl (fun K hK => ?_) AllReadyH.nil
          go_simp
          refine hK.out _ _ ?_ (fun hHeld => ?_)
          · (try dsimp only); exact hS5'.out
          clear hK K
          try simp only [Act.put, List.getElem_toArray, List.getElem_cons_zero, List.getElem_cons_succ, List.setIfInBounds_toArray, List.set_cons_zero, List.set_cons_succ]
          refine wpAnyH_take (i := 8) (v := ?_) rfl (by kernel_rfl) (by kernel_rfl) (by kernel_rfl) (fun _ _ _ h => h) (Or.inl ⟨by rfl, ?_⟩) (by assumption) ?_
          rotate_left
          first | (focus ((intro w hSw; (try dsimp only at hSw); go_simp); (try with_reducible rfl); done)) | fail
          try simp only [Act.put, List.getElem_toArray, List.getElem_cons_zero, List.getElem_cons_succ, List.setIfInBounds_toArray, List.set_cons_zero, List.set_cons_succ]
          refine wpAnyH_done (by kernel_rfl) ?_ _
          go_wp2
          first | go_end0 | refine bodyPost_ret (results_none rfl _ _ _) rfl ?_
          exact hE.out
      · have hp' : ∀ p ∈ AL, p.1 ≠ kyE x.e := fun p h1 h2 => hp ⟨p, h1, h2⟩
        have hfl : AL.filter (fun p => decide (p.1 ≠ kyE x.e)) = AL := List.filter_eq_self.2 fun q hq => decide_eq_true (hp' q hq)
        have lk1 : (Instr.lookup 90 (.map (some ab)) (.agg #[.string (bs x.e.name), .string (bs x.e.dom), .string (bs x.e.path)]) false).run Tryz.prog W4.drew = .ok (.map none) W4.drew := HO4.drew.look_no (hky x hxK) hp'
        have lk2 : (Instr.lookup 90 (.map (some ab)) (.agg #[.string (bs x.e.name), .string (bs x.e.dom), .string (bs x.e.path)]) false).run Tryz.prog W4.drew.drew = .ok (.map none) W4.drew.drew := HO4.drew.drew.look_no (hky x hxK) hp'
        have q5 : (Builtin.delete_ #[91, 50] 0 #[.map none, .agg #[.int .i64 d.1.1, .int .i64 d.1.2, .int .i64 d.2]]).run Tryz.prog W4.drew = .ok (.tuple #[]) W4.drew := del_nil _ d okd _
        have ln2 : (Builtin.len_ #[91] 3 #[.map none]).run Tryz.prog W4.drew.drew = .ok (.int .i64 0) W4.drew.drew := len_nil_ _ _
        obtain ⟨w6, q6, HO6, hc6⟩ := HO4.drew.drew.drew.dropKey (hky x hxK) (0 : TypeId)
        have q6 : (Builtin.delete_ #[90, 54] 0 #[.map (some ab), .agg #[.string (bs x.e.name), .string (bs x.e.dom), .string (bs x.e.path)]]).run Tryz.prog W4.drew.drew.drew = .ok (.tuple #[]) w6 := q6
        rw [hfl] at HO6
        have hS6 := Lib.hid (KfS.of HO6.blk ((show C3 E d.1.1 d.1.2 d.2 W4.drew.drew.drew from HC4).blk (hc6.block _ (World.block_lt_of_cell? _ _ HC4.1) (fun e => (HO4.mapB _ Om.mem_ab).noCell (by subst e; exact HC4.1)))) (hX4.drew.drew.drew.ch hc6 (fun e => (HO4.mapB _ Om.mem_ab).neWhole hX4 e)))
        have hS5 := Lib.hid (KfS.of HO4.drew.drew.blk HC4 hX4.drew.drew)
        have hS5'' := Lib.hid (KfS.of HO4.drew.drew.drew.blk HC4 hX4.drew.drew.drew)
        have hE := Lib.hid (show KillE w N m kb ab db sv sb K AL D M d n (.returned (.tuple #[])) w6 from ⟨rfl, AL, HO6, hne, hle,
          fun ky' d' => ⟨fun h => ⟨h, fun e => by
            subst e
            obtain ⟨y, hy, _, hd, hy2⟩ := hin _ _ h
            rw [← kept_one hnd hxK hy (hxd.trans hd.symm)] at hy2
            obtain ⟨q, hq, e, _⟩ := h
            exact hp' q hq (e.trans hy2.symm)⟩, fun h => h.1⟩,
          HB4.drew.drew.drew.trans hc6 (fun k hk e => by have e : k = ab := e; subst e; exact Om.mem_ab)⟩)
        clear hin hky hne hle hnd HO4 HC4 HB4 HO6 hc6 hfl hp' hp hxd hxK HX HH
        go_wp2_with fail
        refine wp_region_held_drew (S := (fun W => W.cell? ⟨m, 1, none⟩ = some (.map (some ab)) ∧ W.cell? ⟨E, 0, none⟩ = some (.int .i64 d.1.1) ∧ W.cell? ⟨E, 1, none⟩ = some (.int .i64 d.1.2) ∧ W.cell? ⟨E, 2, none⟩ = some (.int .i64 d.2) ∧ W.cell? ⟨F, 7, none⟩ = some (.string (bs x.e.name)) ∧ W.cell? ⟨F, 8, none⟩ = some (.string (bs x.e.dom)) ∧ W.cell? ⟨F, 9, none⟩ = some (.string (bs x.e.path)))) (by kernel_rfl) ?_ (fun hHeld => ?_)
        · (try dsimp only); exact hS4.out
        refine wpAnyH_take (i := 0) (v := ?_) rfl (by kernel_rfl) (by kernel_rfl) (by kernel_rfl) (fun _ _ _ h => h) (Or.inl ⟨by rfl, ?_⟩) (by assumption) ?_
        rotate_left
        first | (focus ((intro w hSw; (try dsimp only at hSw); go_simp); (try with_reducible rfl); done)) | fail
        try simp only [Act.put, List.getElem_toArray, List.getElem_cons_zero, List.setIfInBounds_toArray, List.set_cons_zero, List.set_cons_succ]
        refine wpAnyH_take (i := 1) (v := ?_) rfl (by kernel_rfl) (by kernel_rfl) (by kernel_rfl) (fun _ _ _ h => h) (Or.inl ⟨by rfl, ?_⟩) (by assumption) ?_
        rotate_left
        first | (focus ((intro w hSw; (try dsimp only at hSw); go_simp); (try with_reducible rfl); done)) | fail
        try simp only [Act.put, List.getElem_toArray, List.getElem_cons_zero, List.getElem_cons_succ, List.setIfInBounds_toArray, List.set_cons_zero, List.set_cons_succ]
        refine wpAnyH_take (i := 2) (v := ?_) rfl (by kernel_rfl) (by kernel_rfl) (by kernel_rfl) (fun _ _ _ h => h) (Or.inl ⟨by rfl, ?_⟩) (by assumption) ?_
        rotate_left
        first | (focus ((intro w hSw; (try dsimp only at hSw); go_simp); (try with_reducible rfl); done)) | fail
        try simp only [Act.put, List.getElem_toArray, List.getElem_cons_zero, List.getElem_cons_succ, List.setIfInBounds_toArray, List.set_cons_zero, List.set_cons_succ]
        refine wpAnyH_take (i := 3) (v := ?_) rfl (by kernel_rfl) (by kernel_rfl) (by kernel_rfl) (fun _ _ _ h => h) (Or.inl ⟨by rfl, ?_⟩) (by assumption) ?_
        rotate_left
        first | (focus ((intro w hSw; (try dsimp only at hSw); go_simp); (try with_reducible rfl); done)) | fail
        try simp only [Act.put, List.getElem_toArray, List.getElem_cons_zero, List.getElem_cons_succ, List.setIfInBounds_toArray, List.set_cons_zero, List.set_cons_succ]
        refine wpAnyH_take (i := 4) (v := ?_) rfl (by kernel_rfl) (by kernel_rfl) (by kernel_rfl) (fun _ _ _ h => h) (Or.inl ⟨by rfl, ?_⟩) (by assumption) ?_
        rotate_left
        first | (focus ((intro w hSw; (try dsimp only at hSw); go_simp); (try with_reducible rfl); done)) | fail
        try simp only [Act.put, List.getElem_toArray, List.getElem_cons_zero, List.getElem_cons_succ, List.setIfInBounds_toArray, List.set_cons_zero, List.set_cons_succ]
        refine wpAnyH_take (i := 5) (v := ?_) rfl (by kernel_rfl) (by kernel_rfl) (by kernel_rfl) (fun _ _ _ h => h) (Or.inl ⟨by rfl, ?_⟩) (by assumption) ?_
        rotate_left
        first | (focus ((intro w hSw; (try dsimp only at hSw); go_simp); (try with_reducible rfl); done)) | fail
        try simp only [Act.put, List.getElem_toArray, List.getElem_cons_zero, List.getElem_cons_succ, List.setIfInBounds_toArray, List.set_cons_zero, List.set_cons_succ]
        refine wpAnyH_take (i := 7) (v := ?_) rfl (by kernel_rfl) (by kernel_rfl) (by kernel_rfl) (fun _ _ _ h => h) (Or.inl ⟨by rfl, ?_⟩) (by assumption) ?_
        rotate_left
        first | (focus ((intro w hSw; (try dsimp only at hSw); go_simp); (try with_reducible rfl); done)) | fail
        try simp only [Act.put, List.getElem_toArray, List.getElem_cons_zero, List.getElem_cons_succ, List.setIfInBounds_toArray, List.set_cons_zero, List.set_cons_succ]
        refine wpAnyH_ready (rs := [6]) (by kernel_rfl) (by simp) ?_
        refine AllReadyH.cons rfl (fun K hK => ?_) AllReadyH.nil
        go_simp
        refine hK.out _ _ ?_ (fun hHeld => ?_)
        · (try dsimp only); exact hS4.out
        clear hK K
        try simp only [Act.put, List.getElem_toArray, List.getElem_cons_zero, List.getElem_cons_succ, List.setIfInBounds_toArray, List.set_cons_zero, List.set_cons_succ]
        refine wpAnyH_ready (rs := [8]) (by kernel_rfl) (by simp) ?_
        refine AllReadyH.cons rfl (fun K hK => ?_) AllReadyH.nil
        go_simp
        refine hK.out _ _ ?_ (fun hHeld => ?_)
        · (try dsimp only); exact hS4.out
        clear hK K
        try simp only [Act.put, List.getElem_toArray, List.getElem_cons_zero, List.getElem_cons_succ, List.setIfInBounds_toArray, List.set_cons_zero, List.set_cons_succ]
        refine wpAnyH_done (by kernel_rfl) ?_ _
        go_wp2_with fail
        refine wp_region_held_drew (S := (fun W => W.cell? ⟨m, 1, none⟩ = some (.map (some ab)) ∧ W.cell? ⟨E, 0, none⟩ = some (.int .i64 d.1.1) ∧ W.cell? ⟨E, 1, none⟩ = some (.int .i64 d.1.2) ∧ W.cell? ⟨E, 2, none⟩ = some (.int .i64 d.2) ∧ W.cell? ⟨F, 7, none⟩ = some (.string (bs x.e.name)) ∧ W.cell? ⟨F, 8, none⟩ = some (.string (bs x.e.dom)) ∧ W.cell? ⟨F, 9, none⟩ = some (.string (bs x.e.path)))) (by kernel_rfl) ?_ (fun hHeld => ?_)
        · (try dsimp only); exact hS5.out
        refine wpAnyH_take (i := 0) (v := ?_) rfl (by kernel_rfl) (by kernel_rfl) (by kernel_rfl) (fun _ _ _ h => h) (Or.inl ⟨by rfl, ?_⟩) (by assumption) ?_
        rotate_left
        first | (focus ((intro w hSw; (try dsimp only at hSw); go_simp); (try with_reducible rfl); done)) | fail
        try simp only [Act.put, List.getElem_toArray, List.getElem_cons_zero, List.setIfInBounds_toArray, List.set_cons_zero, List.set_cons_succ]
        refine wpAnyH_take (i := 1) (v := ?_) rfl (by kernel_rfl) (by kernel_rfl) (by kernel_rfl) (fun _ _ _ h => h) (Or.inl ⟨by rfl, ?_⟩) (by assumption) ?_
        rotate_left
        first | (focus ((intro w hSw; (try dsimp only at hSw); go_simp); (try with_reducible rfl); done)) | fail
        try simp only [Act.put, List.getElem_toArray, List.getElem_cons_zero, List.getElem_cons_succ, List.setIfInBounds_toArray, List.set_cons_zero, List.set_cons_succ]
        refine wpAnyH_take (i := 2) (v := ?_) rfl (by kernel_rfl) (by kernel_rfl) (by kernel_rfl) (fun _ _ _ h => h) (Or.inl ⟨by rfl, ?_⟩) (by assumption) ?_
        rotate_left
        first | (focus ((intro w hSw; (try dsimp only at hSw); go_simp); (try with_reducible rfl); done)) | fail
        try simp only [Act.put, List.getElem_toArray, List.getElem_cons_zero, List.getElem_cons_succ, List.setIfInBounds_toArray, List.set_cons_zero, List.set_cons_succ]
        refine wpAnyH_take (i := 3) (v := ?_) rfl (by kernel_rfl) (by kernel_rfl) (by kernel_rfl) (fun _ _ _ h => h) (Or.inl ⟨by rfl, ?_⟩) (by assumption) ?_
        rotate_left
        first | (focus ((intro w hSw; (try dsimp only at hSw); go_simp); (try with_reducible rfl); done)) | fail
        try simp only [Act.put, List.getElem_toArray, List.getElem_cons_zero, List.getElem_cons_succ, List.setIfInBounds_toArray, List.set_cons_zero, List.set_cons_succ]
        refine wpAnyH_take (i := 4) (v := ?_) rfl (by kernel_rfl) (by kernel_rfl) (by kernel_rfl) (fun _ _ _ h => h) (Or.inl ⟨by rfl, ?_⟩) (by assumption) ?_
        rotate_left
        first | (focus ((intro w hSw; (try dsimp only at hSw); go_simp); (try with_reducible rfl); done)) | fail
        try simp only [Act.put, List.getElem_toArray, List.getElem_cons_zero, List.getElem_cons_succ, List.setIfInBounds_toArray, List.set_cons_zero, List.set_cons_succ]
        refine wpAnyH_take (i := 5) (v := ?_) rfl (by kernel_rfl) (by kernel_rfl) (by kernel_rfl) (fun _ _ _ h => h) (Or.inl ⟨by rfl, ?_⟩) (by assumption) ?_
        rotate_left
        first | (focus ((intro w hSw; (try dsimp only at hSw); go_simp); (try with_reducible rfl); done)) | fail
        try simp only [Act.put, List.getElem_toArray, List.getElem_cons_zero, List.getElem_cons_succ, List.setIfInBounds_toArray, List.set_cons_zero, List.set_cons_succ]
        refine wpAnyH_ready (rs := [6]) (by kernel_rfl) (by simp) ?_
        refine AllReadyH.cons rfl (fun K hK => ?_) AllReadyH.nil
        go_simp
        refine hK.out _ _ ?_ (fun hHeld => ?_)
        · (try dsimp only); exact hS5.out
        clear hK K
        try simp only [Act.put, List.getElem_toArray, List.getElem_cons_zero, List.getElem_cons_succ, List.setIfInBounds_toArray, List.set_cons_zero, List.set_cons_succ]
        refine wpAnyH_ready (rs := [7]) (by kernel_rfl) (by simp) ?_
        refine AllReadyH.cons rfl (fun K hK => ?_) AllReadyH.nil
        go_simp
        refine hK.out _ _ ?_ (fun hHeld => ?_)
        · (try dsimp only); exact hS5.out
        clear hK K
        try simp only [Act.put, List.getElem_toArray, List.getElem_cons_zero, List.getElem_cons_succ, List.setIfInBounds_toArray, List.set_cons_zero, List.set_cons_succ]
        refine wpAnyH_take (i := 8) (v := ?_) rfl (by kernel_rfl) (by kernel_rfl) (by kernel_rfl) (fun _ _ _ h => h) (Or.inl ⟨by rfl, ?_⟩) (by assumption) ?_
        rotate_left
        first | (focus ((intro w hSw; (try dsimp only at hSw); go_simp); (try with_reducible rfl); done)) | fail
        try simp only [Act.put, List.getElem_toArray, List.getElem_cons_zero, List.getElem_cons_succ, List.setIfInBounds_toArray, List.set_cons_zero, List.set_cons_succ]
        refine wpAnyH_done (by kernel_rfl) ?_ _
        go_wp2_with fail
        refine wp_region_held_drew (S := (fun W => W.cell? ⟨m, 1, none⟩ = some (.map (some ab)) ∧ W.cell? ⟨E, 0, none⟩ = some (.int .i64 d.1.1) ∧ W.cell? ⟨E, 1, none⟩ = some (.int .i64 d.1.2) ∧ W.cell? ⟨E, 2, none⟩ = some (.int .i64 d.2) ∧ W.cell? ⟨F, 7, none⟩ = some (.string (bs x.e.name)) ∧ W.cell? ⟨F, 8, none⟩ = some (.string (bs x.e.dom)) ∧ W.cell? ⟨F, 9, none⟩ = some (.string (bs x.e.path)))) (by kernel_rfl) ?_ (fun hHeld => ?_)
        · (try dsimp only); exact hS5''.out
        refine wpAnyH_take (i := 0) (v := ?_) rfl (by kernel_rfl) (by kernel_rfl) (by kernel_rfl) (fun _ _ _ h => h) (Or.inl ⟨by rfl, ?_⟩) (by assumption) ?_
        rotate_left
        first | (focus ((intro w hSw; (try dsimp only at hSw); go_simp); (try with_reducible rfl); done)) | fail
        try simp only [Act.put, List.getElem_toArray, List.getElem_cons_zero, List.setIfInBounds_toArray, List.set_cons_zero, List.set_cons_succ]
        refine wpAnyH_take (i := 1) (v := ?_) rfl (by kernel_rfl) (by kernel_rfl) (by kernel_rfl) (fun _ _ _ h => h) (Or.inl ⟨by rfl, ?_⟩) (by assumption) ?_
        rotate_left
        first | (focus ((intro w hSw; (try dsimp only at hSw); go_simp); (try with_reducible rfl); done)) | fail
        try simp only [Act.put, List.getElem_toArray, List.getElem_cons_zero, List.getElem_cons_succ, List.setIfInBounds_toArray, List.set_cons_zero, List.set_cons_succ]
        refine wpAnyH_take (i := 2) (v := ?_) rfl (by kernel_rfl) (by kernel_rfl) (by kernel_rfl) (fun _ _ _ h => h) (Or.inl ⟨by rfl, ?_⟩) (by assumption) ?_
        rotate_left
        first | (focus ((intro w hSw; (try dsimp only at hSw); go_simp); (try with_reducible rfl); done)) | fail
        try simp only [Act.put, List.getElem_toArray, List.getElem_cons_zero, List.getElem_cons_succ, List.setIfInBounds_toArray, List.set_cons_zero, List.set_cons_succ]
        refine wpAnyH_take (i := 3) (v := ?_) rfl (by kernel_rfl) (by kernel_rfl) (by kernel_rfl) (fun _ _ _ h => h) (Or.inl ⟨by rfl, ?_⟩) (by assumption) ?_
        rotate_left
        first | (focus ((intro w hSw; (try dsimp only at hSw); go_simp); (try with_reducible rfl); done)) | fail
        try simp only [Act.put, List.getElem_toArray, List.getElem_cons_zero, List.getElem_cons_succ, List.setIfInBounds_toArray, List.set_cons_zero, List.set_cons_succ]
        refine wpAnyH_take (i := 4) (v := ?_) rfl (by kernel_rfl) (by kernel_rfl) (by kernel_rfl) (fun _ _ _ h => h) (Or.inl ⟨by rfl, ?_⟩) (by assumption) ?_
        rotate_left
        first | (focus ((intro w hSw; (try dsimp only at hSw); go_simp); (try with_reducible rfl); done)) | fail
        try simp only [Act.put, List.getElem_toArray, List.getElem_cons_zero, List.getElem_cons_succ, List.setIfInBounds_toArray, List.set_cons_zero, List.set_cons_succ]
        refine wpAnyH_take (i := 5) (v := ?_) rfl (by kernel_rfl) (by kernel_rfl) (by kernel_rfl) (fun _ _ _ h => h) (Or.inl ⟨by rfl, ?_⟩) (by assumption) ?_
        rotate_left
        first | (focus ((intro w hSw; (try dsimp only at hSw); go_simp); (try with_reducible rfl); done)) | fail
        try simp only [Act.put, List.getElem_toArray, List.getElem_cons_zero, List.getElem_cons_succ, List.setIfInBounds_toArray, List.set_cons_zero, List.set_cons_succ]
        refine wpAnyH_ready (rs := [6]) (by kernel_rfl) (by simp) ?_
        refine AllReadyH.cons rfl (fun K hK => ?_) AllReadyH.nil
        go_simp
        refine hK.out _ _ ?_ (fun hHeld => ?_)
        · (try dsimp only); exact hS6.out
        clear hK K
        try simp only [Act.put, List.getElem_toArray, List.getElem_cons_zero, List.getElem_cons_succ, List.setIfInBounds_toArray, List.set_cons_zero, List.set_cons_succ]
        refine wpAnyH_done (by kernel_rfl) ?_ _
        go_wp2
        first | go_end0 | refine bodyPost_ret (results_none rfl _ _ _) rfl ?_
        exact hE.out
    · have t1 : decide (x.e.kind = 1) = false := decide_eq_false hk
      have hE := Lib.hid (show KillE w N m kb ab db sv sb K AL D M d n (.returned (.tuple #[])) W4 from ⟨rfl, AL, HO4, hne, hle, fun ky d' => ⟨fun h => ⟨h, fun e => by
        subst e
        obtain ⟨y, hy, hy1, hd, hy2⟩ := hin _ _ h
        rw [← kept_one hnd hxK hy (hxd.trans hd.symm)] at hy1
        exact hk hy1⟩, fun h => h.1⟩, HB4⟩)
      generalize x.e.kind = kk at *
      clear hin hky hne hle hnd HO4 HC4 HB4
      go_wp2
      first | go_end0 | refine bodyPost_ret (results_none rfl _ _ _) rfl ?_
      exact hE.out
end Go.Proofs.YtpakmeegldgjmaaGreat
/- Layer 21 (ormap): Clone of dots and of an event. -/
namespace Go.Proofs.YtpakmeegldgjmaaGreat
open Go.RowKit
set_option linter.unusedVariables false
set_option linter.unusedSimpArgs false
set_option maxRecDepth 100000
attribute [local go_sem ↓] Go.wp_at_zero Go.wp_at_succ

/-- A copy of dots. -/
def NewD (w : World) (L : List Dt) (e : Ending) (w' : World) : Prop := ∃ A c, e = .returned (.slice A L.length c) ∧ Own w' w.heap.size 50 3 A L.length c (dts L) ∧ Below w.heap.size w w'
theorem dclone_any (w : World) (A : Option Addr) (c : Nat) (L : List Dt) (h : MsAt w A L) (hL : L.length ≤ 4000000) :
    Calls Tryz.prog 90 #[.slice A L.length c] w (NewD w L) := by
  have hq := fun (w : World) => Lib.run_eql_slice_nil (P := Tryz.prog) w 57 50 A L.length c 0 0 Tryz.underlying57
  cases A with
  | none =>
    have h0 : L = [] := by
      rcases Nat.eq_zero_or_pos L.length with h0 | h0
      · exact List.length_eq_zero_iff.1 h0
      · obtain ⟨b, o, he, _⟩ := h.2 (by omega); cases he
    subst h0
    have hq : ∀ w, (binOp .eql 57 (.slice none 0 c) (.slice none 0 0)).run Tryz.prog w = .ok (.bool true) w := fun w => by simpa using hq w
    show Calls _ _ #[.slice none 0 c] _ _
    go_enter Tryz.func90, Tryz.ntmps90
    go_wp2
    go_ret
    exact ⟨none, 0, rfl, Own.nil_, Below.refl _ _⟩
  | some a =>
    have hq : ∀ w, (binOp .eql 57 (.slice (some a) L.length c) (.slice none 0 0)).run Tryz.prog w = .ok (.bool false) w := fun w => by simpa using hq w
    obtain ⟨i0, hi, hz0, hz1, hz2⟩ := info_parts info_dt
    have H := Lib.hid h
    have hd := dts_one L
    clear h
    go_enter Tryz.func90, Tryz.ntmps90
    go_wp2_with (at_builtin; refine wpList_append_rd _ rfl _ _ 57 rfl w.heap.size 50 i0 (.agg #[.int .i64 0, .int .i64 0, .int .i64 0]) 3 24 Tryz.underlying57 hi hz0 hz1 hz2 rfl (by decide) (by decide) _ 0 0 [] rfl (own_e3 w _ _ (Nat.le_refl _)) w.heap.size (some a) L.length c (dts L) rfl (H.out.below ((Below.refl _ _).alloc (Nat.le_refl _) _)) hd (by omega) (by simp) ?_; intro A2 c2 w2 o2 b2)
    go_ret
    refine ⟨A2, c2, by simp [Array.getD], by simpa using o2, ((Below.refl _ _).alloc (Nat.le_refl _) _).trans b2⟩
/-- A copy of an event. -/
def NewEv (w : World) (x : El) (e : Ending) (w' : World) : Prop := ∃ A c, e = .returned (.agg (evA x.e A c)) ∧ Own w' w.heap.size 50 3 A x.e.over.length c (dts x.e.over) ∧ Below w.heap.size w w'
theorem evclone_any (w : World) (x : El) (h : MsAt w x.A x.e.over) (hL : x.e.over.length ≤ 4000000) :
    Calls Tryz.prog 48 #[.agg (evA x.e x.A x.c)] w (NewEv w x) := by
  have b1 := ((Below.refl w.heap.size w).alloc (Nat.le_refl _) (.cells (evA x.e x.A x.c) 59)).alloc (by simp) (.cells zeroE' 59)
  have hE1 := (Whole.new w 59 (evA x.e x.A x.c)).alloc (.cells zeroE' 59)
  have hR1 := Whole.new (w.alloc (.cells (evA x.e x.A x.c) 59)) 59 zeroE'
  have C := Lib.hid (dclone_any _ x.A x.c x.e.over (h.up b1) hL)
  have hs1 : (w.alloc (.cells (evA x.e x.A x.c) 59)).heap.size = w.heap.size + 1 := by simp
  have hs2 : ((w.alloc (.cells (evA x.e x.A x.c) 59)).alloc (.cells zeroE' 59)).heap.size = w.heap.size + 1 + 1 := by simp
  rw [hs1] at hR1
  have c18 : ((w.alloc (.cells (evA x.e x.A x.c) 59)).alloc (.cells zeroE' 59)).cell? ⟨w.heap.size, 18, none⟩ = some (.slice x.A x.e.over.length x.c) := by rw [hE1.cell]; rfl
  have hfz := hE1.free 18
  clear h
  unfold zeroE' at *
  go_enter Tryz.func48, Tryz.ntmps48
  go_wp2_with fail
  refine C.out.mono ?_; rintro r w2 ⟨A, c, rfl, hm, hb⟩
  rw [hs2] at hb hm
  have hE2 := hE1.below hb (by omega)
  have hR2 := hR1.below hb (by omega)
  have hb2 := b1.trans (below_of_le hb (by omega))
  have c2 : w2.cell? ⟨w.heap.size, 18, none⟩ = some (.slice x.A x.e.over.length x.c) := by rw [hE2.cell]; rfl
  have f2 := hE2.free 18
  have hE3 : Whole (w2.setCell ⟨w.heap.size, 18, none⟩ (.slice A x.e.over.length c)) w.heap.size 59 (evA x.e A c) := hE2.set_ 18 (.slice A x.e.over.length c)
  have hR3 := hR2.far (p := ⟨w.heap.size, 18, none⟩) (by simp) (.slice A x.e.over.length c)
  have hm3 : Own (w2.setCell ⟨w.heap.size, 18, none⟩ (.slice A x.e.over.length c)) (w.heap.size + 1 + 1) 50 3 A x.e.over.length c (dts x.e.over) :=
    hm.ch (Ch.set_ _ _ _) (fun k hk _ _ e => by have e : k = w.heap.size := e; omega)
  have H3 := Lib.hid (And.intro hE3 (And.intro hR3 hm3))
  have hbs : Below w.heap.size w (w2.setCell ⟨w.heap.size, 18, none⟩ (.slice A x.e.over.length c)) := hb2.trans ((Ch.set_ _ _ _).below (fun k hk e => by have e : k = w.heap.size := e; omega) hb2.size)
  have HB := Lib.hid hbs
  have hz3 : w.heap.size + 1 < (w2.setCell ⟨w.heap.size, 18, none⟩ (.slice A x.e.over.length c)).heap.size := hR3.lt
  clear hE1 hR1 c18 hfz b1 hE2 hR2 C hm3 hE3 hR3 hbs hm hb hb2
  go_wp2_with (first | (refine ld_whole (by rfl) _ rfl rfl H3.out.1 Tryz.underlying59 rfl (by kernel_rfl) ?_) | (refine st_whole (by rfl) _ _ rfl rfl rfl H3.out.2.1 (by rfl) (by kernel_rfl) (by rfl) ?_; intro W4 hX4 hC4 hz4; have H4 := Lib.hid (And.intro hX4 (And.intro hC4 hz4)); clear hX4 hC4 hz4))
  refine bodyPost_ret (results_cell rfl rfl H4.out.1.range Tryz.underlying59 rfl (by kernel_rfl)) rfl ⟨A, c, rfl, ?_, HB.out.trans (H4.out.2.1.below (fun k hk e => by have e : k = w.heap.size + 1 := e; omega) (by omega))⟩
  exact (H3.out.2.2.ch H4.out.2.1 (fun k hk _ _ e => by have e : k = w.heap.size + 1 := e; omega)).base_le (by omega)
end Go.Proofs.YtpakmeegldgjmaaGreat
/- Layer 21 (ormap): what a map of events is a function of; the plain law of Apply. -/
namespace Go.Proofs.YtpakmeegldgjmaaGreat
open Go.RowKit
set_option linter.unusedVariables false
set_option maxRecDepth 100000

/-- What holds of a map of events: the alive dots, the dead ones and the vector are told by the kept events. -/
structure OmSt (K : List El) (AL : List (Ky × Nat × List Dt)) (D M : List Dt) : Prop where
  nd : (K.map fun x => x.e.dot).Nodup
  ev : ∀ x ∈ K, evB x.e = true ∧ lgE x.e = true
  al : ∀ ky d, alHas AL ky d ↔ ∃ x ∈ K, x.e.kind = 1 ∧ x.e.dot = d ∧ kyE x.e = ky ∧ d ∉ D
  ne : alNE AL
  le : alLe AL K.length
  dd : ∀ d, d ∈ D ↔ ∃ x ∈ K, d ∈ x.e.over
  dl : D.length ≤ 64 * K.length
  vw : Vw M
  vc : ∀ a s, rightD (a, s) = true → (s ≤ mget M a ↔ ∃ x ∈ K, x.e.dot = (a, s))
theorem OmSt.nil : OmSt [] [] [] [] := by
  refine ⟨List.nodup_nil, by simp, ?_, by simp [alNE], ⟨by simp, by simp⟩, by simp, by simp, Vw.nil, ?_⟩
  · intro ky d; unfold alHas; simp
  · intro a s h
    have := (rightD_iff _).1 h
    simp only at this
    simp [mget]; omega
theorem evB_right {e : Ed} (h : evB e = true) : rightD e.dot = true := by
  unfold evB at h
  simp only [Bool.and_eq_true] at h
  exact h.1.1.1.1
theorem ovG_right {o : Dt} : ∀ {l : List Dt} {p : Option Dt}, ovG o p l = true → ∀ d ∈ l, rightD d = true := by
  intro l
  induction l with
  | nil => simp
  | cons x r ih =>
    intro p h d hd
    unfold ovG at h
    simp only [Bool.and_eq_true] at h
    rcases List.mem_cons.1 hd with rfl | hd
    · exact h.1.1.1
    · exact ih h.2 d hd
theorem evB_over {e : Ed} (h : evB e = true) : e.over.length ≤ 64 ∧ ∀ d ∈ e.over, rightD d = true := by
  unfold evB at h
  simp only [Bool.and_eq_true] at h
  have h := h.1.2
  unfold overB at h
  simp only [Bool.and_eq_true, decide_eq_true_eq] at h
  exact ⟨h.1, ovG_right h.2⟩
theorem kyOk_lg {e : Ed} (h : lgE e = true) : kyOk (kyE e) := by
  unfold lgE at h
  simp only [Bool.and_eq_true, decide_eq_true_eq] at h
  unfold kyOk kyE
  simp only [maxLen]
  omega
section
variable {K : List El} {AL AL' : List (Ky × Nat × List Dt)} {D D' M : List Dt}
theorem OmSt.alIn (h : OmSt K AL D M) : alIn K AL := fun ky d hd => by
  obtain ⟨x, hx, h1, h2, h3, _⟩ := (h.al ky d).1 hd
  exact ⟨x, hx, h1, h2, h3⟩
theorem OmSt.kyOks (h : OmSt K AL D M) : ∀ x ∈ K, kyOk (kyE x.e) := fun x hx => kyOk_lg (h.ev x hx).2
/-- What holds while Apply kills. -/
structure KillI (K : List El) (D0 over : List Dt) (j : Nat) (AL : List (Ky × Nat × List Dt)) (D : List Dt) : Prop where
  al : ∀ ky d, alHas AL ky d ↔ ∃ x ∈ K, x.e.kind = 1 ∧ x.e.dot = d ∧ kyE x.e = ky ∧ d ∉ D
  ne : alNE AL
  le : alLe AL K.length
  dd : ∀ d, d ∈ D ↔ d ∈ D0 ∨ d ∈ over.take j
  dl : D.length ≤ D0.length + j
theorem KillI.alIn {D0 over : List Dt} {j : Nat} (h : KillI K D0 over j AL D) : YtpakmeegldgjmaaGreat.alIn K AL := fun ky d hd => by
  obtain ⟨x, hx, h1, h2, h3, _⟩ := (h.al ky d).1 hd
  exact ⟨x, hx, h1, h2, h3⟩
theorem KillI.step {D0 over : List Dt} {j : Nat} {d : Dt} (h : KillI K D0 over j AL D) (hd : over[j]? = some d) (h1 : alNE AL') (h2 : alLe AL' K.length) (h3 : ∀ ky' d', alHas AL' ky' d' ↔ alHas AL ky' d' ∧ d' ≠ d) : KillI K D0 over (j + 1) AL' (d :: D.filter fun y => decide (y ≠ d)) := by
  have hm : ∀ y, y ∈ d :: D.filter (fun y => decide (y ≠ d)) ↔ y = d ∨ y ∈ D := by
    intro y
    simp only [List.mem_cons, List.mem_filter, decide_eq_true_eq]
    by_cases e : y = d <;> simp [e]
  refine ⟨fun ky y => ?_, h1, h2, fun y => ?_, ?_⟩
  · rw [h3, h.al]
    constructor
    · rintro ⟨⟨x, a, b, c, e, f⟩, g⟩
      exact ⟨x, a, b, c, e, fun hy => ((hm y).1 hy).elim g f⟩
    · rintro ⟨x, a, b, c, e, f⟩
      exact ⟨⟨x, a, b, c, e, fun hy => f ((hm y).2 (.inr hy))⟩, fun hy => f ((hm y).2 (.inl hy))⟩
  · rw [hm, h.dd, List.take_add_one, hd]
    simp only [List.mem_append, Option.toList_some, List.mem_singleton]
    constructor
    · rintro (e | e | e)
      · exact .inr (.inr e)
      · exact .inl e
      · exact .inr (.inl e)
    · rintro (e | e | e)
      · exact .inr (.inl e)
      · exact .inr (.inr e)
      · exact .inl e
  · have := List.length_filter_le (fun y => decide (y ≠ d)) D
    have := h.dl
    simp only [List.length_cons]
    omega
/-- The kept events behind Apply, ahead of the kills: the put is alive. -/
theorem OmSt.put (h : OmSt K AL D M) {x : El} (hx : x.e.kind = 1 ∧ x.e.dot ∉ D) (h1 : alNE AL') (h2 : alLe AL' (K.length + 1)) (h3 : ∀ ky' d', alHas AL' ky' d' ↔ alHas AL ky' d' ∨ (ky' = kyE x.e ∧ d' = x.e.dot)) : KillI (K ++ [x]) D x.e.over 0 AL' D := by
  refine ⟨fun ky d => ?_, h1, by simpa using h2, fun d => by simp, by omega⟩
  rw [h3, h.al]
  constructor
  · rintro (⟨y, a, b⟩ | ⟨rfl, rfl⟩)
    · exact ⟨y, List.mem_append_left _ a, b⟩
    · exact ⟨x, by simp, hx.1, rfl, rfl, hx.2⟩
  · rintro ⟨y, a, b, c, e, f⟩
    rcases List.mem_append.1 a with a | a
    · exact .inl ⟨y, a, b, c, e, f⟩
    · simp at a
      subst a
      exact .inr ⟨e.symm, c.symm⟩
/-- The same, of a removal, or of a put that is dead. -/
theorem OmSt.noPut (h : OmSt K AL D M) {x : El} (hx : ¬ (x.e.kind = 1 ∧ x.e.dot ∉ D)) : KillI (K ++ [x]) D x.e.over 0 AL D := by
  refine ⟨fun ky d => ?_, h.ne, ⟨by have := h.le.1; simp; omega, fun p hp => by have := h.le.2 p hp; simp; omega⟩, fun d => by simp, by omega⟩
  rw [h.al]
  constructor
  · rintro ⟨y, a, b⟩
    exact ⟨y, List.mem_append_left _ a, b⟩
  · rintro ⟨y, a, b, c, e, f⟩
    rcases List.mem_append.1 a with a | a
    · exact ⟨y, a, b, c, e, f⟩
    · simp at a
      subst a
      subst c
      exact absurd ⟨b, f⟩ hx
/-- Behind the kills. -/
theorem OmSt.done (h : OmSt K AL D M) {x : El} (he : evB x.e = true) (hl : lgE x.e = true) (hs : mget M x.e.dot.1 + 1 = x.e.dot.2) (hk : KillI (K ++ [x]) D x.e.over x.e.over.length AL' D') : OmSt (K ++ [x]) AL' D' (rset M x.e.dot.1 x.e.dot.2) := by
  have hr := evB_right he
  have hrb := (rightD_iff _).1 hr
  have hnew : ∀ y ∈ K, y.e.dot ≠ x.e.dot := by
    intro y hy e
    have := (h.vc x.e.dot.1 x.e.dot.2 hr).2 ⟨y, hy, e⟩
    omega
  have hd := hk.dd
  rw [List.take_length] at hd
  have hov := evB_over he
  refine ⟨?_, fun y hy => ?_, hk.al, hk.ne, hk.le, fun d => ?_, ?_, h.vw.set hr, fun a s hrs => ?_⟩
  · rw [List.map_append, List.nodup_append]
    refine ⟨h.nd, by simp, fun d hd d' hd' e => ?_⟩
    simp at hd'
    obtain ⟨y, hy, rfl⟩ := List.mem_map.1 hd
    exact hnew y hy (e.trans hd')
  · rcases List.mem_append.1 hy with hy | hy
    · exact h.ev y hy
    · simp at hy; subst hy; exact ⟨he, hl⟩
  · rw [hd, h.dd]
    constructor
    · rintro (⟨y, a, b⟩ | a)
      · exact ⟨y, List.mem_append_left _ a, b⟩
      · exact ⟨x, by simp, a⟩
    · rintro ⟨y, a, b⟩
      rcases List.mem_append.1 a with a | a
      · exact .inl ⟨y, a, b⟩
      · simp at a; subst a; exact .inr b
  · have := hk.dl
    have := h.dl
    simp only [List.length_append, List.length_singleton]
    omega
  · rw [mget_rset h.vw.1]
    have key : (∃ y ∈ K ++ [x], y.e.dot = (a, s)) ↔ (∃ y ∈ K, y.e.dot = (a, s)) ∨ x.e.dot = (a, s) := by
      constructor
      · rintro ⟨y, u, v⟩
        rcases List.mem_append.1 u with u | u
        · exact .inl ⟨y, u, v⟩
        · simp at u; subst u; exact .inr v
      · rintro (⟨y, u, v⟩ | v)
        · exact ⟨y, List.mem_append_left _ u, v⟩
        · exact ⟨x, by simp, v⟩
    rw [key, ← h.vc a s hrs]
    by_cases e : a = x.e.dot.1
    · subst e
      rw [if_pos rfl]
      constructor
      · intro hle
        by_cases e : s = x.e.dot.2
        · right; rw [e]
        · left; omega
      · rintro (hle | e)
        · omega
        · rw [e]; exact Int.le_refl _
    · rw [if_neg e]
      constructor
      · exact .inl
      · rintro (hle | e')
        · exact hle
        · exact absurd (by rw [e']) e
end
end Go.Proofs.YtpakmeegldgjmaaGreat
/- Layer 21 (ormap): Apply. -/
namespace Go.Proofs.YtpakmeegldgjmaaGreat
open Go.RowKit
set_option linter.unusedVariables false
set_option linter.unusedSimpArgs false
set_option maxRecDepth 100000
attribute [local go_sem ↓] Go.wp_at_zero Go.wp_at_succ

section
variable {w w' : World} {N m kb ab db sv sb : Nat} {K : List El} {AL : List (Ky × Nat × List Dt)} {D M : List Dt}
/-- An event more is kept. -/
theorem Om.keep (h : Om w N m kb ab db sv sb K AL D M) {x : El} (ok : dtOk x.e.dot) (hn : ∀ y ∈ K, y.e.dot ≠ x.e.dot) (hl : K.length ≤ 1000000) (hx : MsAt w x.A x.e.over) :
    ∃ w', (Instr.mapUpdate 89 (.map (some kb)) (dtV x.e.dot) (.agg (evA x.e x.A x.c))).run Tryz.prog w = .ok () w' ∧ Om w' N m kb ab db sv sb (K ++ [x]) AL D M ∧ Ch (fun k => k = kb) w w' := by
  have hf : (keptV K).filter (fun p => decide (p.1 ≠ x.e.dot)) = keptV K := by
    rw [List.filter_eq_self]
    intro q hq
    obtain ⟨y, hy, rfl⟩ := List.mem_map.1 hq
    exact decide_eq_true (hn y hy)
  obtain ⟨w', q, hm, hg⟩ := h.kept.update dot_key Tryz.underlying89 (by unfold keptV; rw [List.length_map]; unfold maxLen; omega) ok (.agg (evA x.e x.A x.c)) (W' := keptV (K ++ [x])) (by
    rw [hf]
    unfold keptV
    rw [List.map_append]
    exact List.perm_append_comm)
  have hc : Ch (fun k => k = kb) w w' := (grown_ch hg).mono fun k _ hk => by injection hk
  exact ⟨w', q, h.setKept hc hm (Ds.more (Rd.chM hx (Nat.le_refl _) (by omega) h.kept.mapB hc) hc.size), hc⟩
end
theorem Rd.chS {S : Nat → Prop} {w w' : World} {B size n : Nat} {A : Option Addr} {xs : List Value} (r : Rd w B size A n xs) (hB : B ≤ w.heap.size) (hs : 0 < size) (hg : ∀ g, S g → MapB w g) (h : Ch S w w') : Rd w' B size A n xs := by
  by_cases hn : n = 0
  · subst hn
    exact ⟨r.1, fun h0 => absurd h0 (by simp)⟩
  · refine r.ch hB h (fun k hk hb e => ?_)
    obtain ⟨b, o, e0, hlt, hc⟩ := r.2 (Nat.mul_pos (by omega) hs)
    rw [e0] at hb
    have : b = k := by simpa [bl] using hb
    subst this
    have h0 : 0 < xs.length := by rw [r.1]; exact Nat.mul_pos (by omega) hs
    exact (hg _ e).noCell (hc 0 xs[0] (List.getElem?_eq_getElem h0))
/-- What Apply keeps while it runs. -/
structure ApS (w : World) (N m kb ab db sv sb : Nat) (K : List El) (AL : List (Ky × Nat × List Dt)) (D M : List Dt) (E : Nat) (x : El) (W : World) : Prop where
  om : Om W N m kb ab db sv sb K AL D M
  ev : Whole W E 59 (evA x.e x.A x.c)
  ov : MsAt W x.A x.e.over
  be : Below N w W
  le : N ≤ W.heap.size
  cm : Ch (fun k => MapB w k) w W
theorem mapB_back {w W : World} (h : Ch (fun k => MapB w k) w W) {k : Nat} (hk : k < w.heap.size) (hm : MapB W k) : MapB w k :=
  Classical.byContradiction fun hn => by
    obtain ⟨es, clock, hb⟩ := hm
    exact hn ⟨es, clock, by rw [← h.block k hk hn]; exact hb⟩
section
variable {w W W' : World} {N m kb ab db sv sb E : Nat} {K K' : List El} {AL AL' : List (Ky × Nat × List Dt)} {D D' M M' : List Dt} {x : El}
theorem ApS.up (h : ApS w N m kb ab db sv sb K AL D M E x W) (b : Below W.heap.size W W') : ApS w N m kb ab db sv sb K AL D M E x W' :=
  ⟨h.om.up b, h.ev.below b h.ev.lt, h.ov.up b, h.be.trans (below_of_le b h.le), Nat.le_trans h.le b.size, h.cm.trans (below_ch (S := fun _ => False) b) (fun _ _ e => e.elim)⟩
theorem ApS.drew (h : ApS w N m kb ab db sv sb K AL D M E x W) : ApS w N m kb ab db sv sb K AL D M E x W.drew := h.up (Below.refl _ _).drew
/-- A change of one of the map's blocks. -/
theorem ApS.ch (h : ApS w N m kb ab db sv sb K AL D M E x W) {g : Nat} (hg : g ∈ omBs kb ab db sb AL) (ho : Om W' N m kb ab db sv sb K' AL' D' M') (hc : Ch (fun k => k = g) W W') : ApS w N m kb ab db sv sb K' AL' D' M' E x W' :=
  ⟨ho, h.ev.ch hc (fun e => (h.om.mapB g hg).neWhole h.ev e), Ds.more (Rd.chM h.ov (Nat.le_refl _) (by omega) (h.om.mapB g hg) hc) hc.size, h.be.trans (hc.below (fun k hk e => by have e : k = g := e; exact absurd (h.om.lo g hg) (by omega)) h.le), Nat.le_trans h.le hc.size, h.cm.trans hc (fun k hk e => mapB_back h.cm hk (by have e : k = g := e; rw [e]; exact h.om.mapB g hg))⟩
/-- A change of some of them. -/
theorem ApS.chs (h : ApS w N m kb ab db sv sb K AL D M E x W) (ho : Om W' N m kb ab db sv sb K' AL' D' M') (hc : Ch (fun k => k ∈ omBs kb ab db sb AL) W W') : ApS w N m kb ab db sv sb K' AL' D' M' E x W' :=
  ⟨ho, h.ev.ch hc (fun hg => (h.om.mapB E hg).neWhole h.ev rfl), Ds.more (Rd.chS h.ov (Nat.le_refl _) (by omega) (fun g hg => h.om.mapB g hg) hc) hc.size, h.be.trans (hc.below (fun k hk hg => absurd (h.om.lo k hg) (by omega)) h.le), Nat.le_trans h.le hc.size, h.cm.trans hc (fun k hk hg => mapB_back h.cm hk (h.om.mapB k hg))⟩
theorem ApS.S (h : ApS w N m kb ab db sv sb K AL D M E x W) : W.cell? ⟨m, 0, none⟩ = some (.map (some kb)) ∧ W.cell? ⟨m, 3, none⟩ = some (.pointer (some ⟨sv, 0, none⟩)) ∧ W.cell? ⟨E, 0, none⟩ = some (.int .i64 x.e.dot.1.1) ∧ W.cell? ⟨E, 1, none⟩ = some (.int .i64 x.e.dot.1.2) ∧ W.cell? ⟨E, 2, none⟩ = some (.int .i64 x.e.dot.2) ∧ W.rangeAt E 0 (evA x.e x.A x.c).toList := by
  refine ⟨h.om.cells.1, h.om.cells.2.2.2, ?_, ?_, ?_, h.ev.range⟩
  all_goals (rw [h.ev.cell]; rfl)
end
/-- What Apply leaves. -/
def ApplyE (w : World) (N m kb ab db sv sb : Nat) (K : List El) (AL : List (Ky × Nat × List Dt)) (D M : List Dt) (x : El) (e : Ending) (w' : World) : Prop :=
  (evB x.e = false ∧ e = .returned (.tuple #[.bool false, .int .i64 1]) ∧ Below w.heap.size w w') ∨
  (evB x.e = true ∧ vhasB M x.e.dot = true ∧ e = .returned (.tuple #[.bool false, .int .i64 0]) ∧ Below w.heap.size w w') ∨
  (evB x.e = true ∧ vhasB M x.e.dot = false ∧ mget M x.e.dot.1 + 1 ≠ x.e.dot.2 ∧ e = .returned (.tuple #[.bool false, .int .i64 6]) ∧ Below w.heap.size w w') ∨
  (evB x.e = true ∧ vhasB M x.e.dot = false ∧ mget M x.e.dot.1 + 1 = x.e.dot.2 ∧ e = .returned (.tuple #[.bool true, .int .i64 0]) ∧ ∃ A c AL' D' M', Om w' N m kb ab db sv sb (K ++ [⟨x.e, A, c⟩]) AL' D' M' ∧ OmSt (K ++ [⟨x.e, A, c⟩]) AL' D' M' ∧ Below N w w' ∧ Ch (fun k => MapB w k) w w')
set_option maxHeartbeats 8000000 in
theorem ormapply_any (w : World) (N m kb ab db sv sb : Nat) (K : List El) (AL : List (Ky × Nat × List Dt)) (D M : List Dt) (h : Om w N m kb ab db sv sb K AL D M) (hs : OmSt K AL D M) (x : El) (hx : MsAt w x.A x.e.over) (hl : lgE x.e = true) (hK : K.length ≤ 900) (hN : N ≤ w.heap.size) :
    Calls Tryz.prog 15 #[.pointer (some ⟨m, 0, none⟩), .agg (evA x.e x.A x.c)] w (ApplyE w N m kb ab db sv sb K AL D M x) := by
  have B0 := (Below.refl w.heap.size w).alloc (Nat.le_refl _) (.cells (evA x.e x.A x.c) 59)
  have HA := Lib.hid (show ApS w N m kb ab db sv sb K AL D M w.heap.size x (w.alloc (.cells (evA x.e x.A x.c) 59)) from ⟨h.up B0, Whole.new _ _ _, hx.up B0, below_of_le B0 hN, Nat.le_trans hN B0.size, Ch.alloc_ _ _ _⟩)
  have HB := Lib.hid B0
  have HST := Lib.hid hs
  have HLg := Lib.hid hl
  have CR := Lib.hid (fun (W : World) (hW : MsAt W x.A x.e.over) => (show Calls _ _ #[.agg (evA x.e x.A x.c)] _ _ from evright_any x.e x.A x.c W hW (lgE_short hl)))
  clear h hx hl hN B0 hs
  go_enter Tryz.func15, Tryz.ntmps15
  go_wp2_with (refine ld_whole (by rfl) _ rfl rfl (Whole.new _ _ _) Tryz.underlying59 rfl (by kernel_rfl) ?_)
  generalize hE : w.heap.size = E at *
  have HEE := Lib.hid hE
  clear hE
  generalize hW : w.alloc (.cells (evA x.e x.A x.c) 59) = W at *
  have HWW := Lib.hid hW
  clear hW
  have HSZ := Lib.hid (show E ≤ W.heap.size by rw [← HEE.out]; exact HB.out.size)
  cases hev : evB x.e with
  | false =>
    rw [hev] at CR
    have HV := Lib.hid hev
    clear hev
    refine (CR.out _ HA.out.ov).mono ?_; rintro r w1 ⟨rfl, b1⟩
    have HE := Lib.hid (show ApplyE w N m kb ab db sv sb K AL D M x (.returned (.tuple #[.bool false, .int .i64 1])) w1 from .inl ⟨HV.out, rfl, by rw [HEE.out]; exact HB.out.trans (below_of_le b1 HSZ.out)⟩)
    clear b1
    go_wp2
    go_ret2
    exact HE.out
  | true =>
    rw [hev] at CR
    have HV := Lib.hid hev
    have hr := evB_right hev
    have hac : acOk x.e.dot.1 := acOk_right (n := x.e.dot.2) hr
    have hdk := dtOk_right hr
    have HRT := Lib.hid (And.intro hr (And.intro hac hdk))
    clear hev hr hac hdk
    refine (CR.out _ HA.out.ov).mono ?_; rintro r w1 ⟨rfl, b1⟩
    have HA1 := Lib.hid (HA.out.up b1)
    have HB1 := Lib.hid (show Below w.heap.size w w1 from by rw [HEE.out]; exact HB.out.trans (below_of_le b1 HSZ.out))
    have HL1 := Lib.hid (show E ≤ w1.heap.size from Nat.le_trans HSZ.out b1.size)
    clear b1
    have CH := Lib.hid (fun (W : World) (hW : VecAt W (some ⟨sv, 0, none⟩) M) => (show Calls _ _ #[_, .agg #[.int .i64 x.e.dot.1.1, .int .i64 x.e.dot.1.2, .int .i64 x.e.dot.2]] _ _ from vchas_any x.e.dot W _ M hW))
    go_wp2_with fail
    refine wp_region_held_drew (S := (fun W => W.cell? ⟨m, 0, none⟩ = some (.map (some kb)) ∧ W.cell? ⟨m, 3, none⟩ = some (.pointer (some ⟨sv, 0, none⟩)) ∧ W.cell? ⟨E, 0, none⟩ = some (.int .i64 x.e.dot.1.1) ∧ W.cell? ⟨E, 1, none⟩ = some (.int .i64 x.e.dot.1.2) ∧ W.cell? ⟨E, 2, none⟩ = some (.int .i64 x.e.dot.2) ∧ W.rangeAt E 0 (evA x.e x.A x.c).toList)) (by kernel_rfl) ?_ (fun hHeld => ?_)
    · (try dsimp only); exact HA1.out.drew.S
    refine wpAnyH_take (i := 0) (v := ?_) rfl (by kernel_rfl) (by kernel_rfl) (by kernel_rfl) (fun _ _ _ h => h) (Or.inl ⟨by rfl, ?_⟩) (by assumption) ?_
    rotate_left
    first | (focus ((intro w hSw; (try dsimp only at hSw); go_simp); (try with_reducible rfl); done)) | fail
    try simp only [Act.put, List.getElem_toArray, List.getElem_cons_zero, List.setIfInBounds_toArray, List.set_cons_zero, List.set_cons_succ]
    refine wpAnyH_take (i := 1) (v := ?_) rfl (by kernel_rfl) (by kernel_rfl) (by kernel_rfl) (fun _ _ _ h => h) (Or.inl ⟨by rfl, ?_⟩) (by assumption) ?_
    rotate_left
    first | (focus ((intro w hSw; (try dsimp only at hSw); go_simp); (try with_reducible rfl); done)) | fail
    try simp only [Act.put, List.getElem_toArray, List.getElem_cons_zero, List.getElem_cons_succ, List.setIfInBounds_toArray, List.set_cons_zero, List.set_cons_succ]
    refine wpAnyH_take (i := 2) (v := ?_) rfl (by kernel_rfl) (by kernel_rfl) (by kernel_rfl) (fun _ _ _ h => h) (Or.inl ⟨by rfl, ?_⟩) (by assumption) ?_
    rotate_left
    first | (focus ((intro w hSw; (try dsimp only at hSw); go_simp); (try with_reducible rfl); done)) | fail
    try simp only [Act.put, List.getElem_toArray, List.getElem_cons_zero, List.getElem_cons_succ, List.setIfInBounds_toArray, List.set_cons_zero, List.set_cons_succ]
    refine wpAnyH_take (i := 3) (v := ?_) rfl (by kernel_rfl) (by kernel_rfl) (by kernel_rfl) (fun _ _ _ h => h) (Or.inl ⟨by rfl, ?_⟩) (by assumption) ?_
    rotate_left
    first | (focus ((intro w hSw; (try dsimp only at hSw); go_simp); (try with_reducible rfl); done)) | fail
    try simp only [Act.put, List.getElem_toArray, List.getElem_cons_zero, List.getElem_cons_succ, List.setIfInBounds_toArray, List.set_cons_zero, List.set_cons_succ]
    refine wpAnyH_take (i := 4) (v := ?_) rfl (by kernel_rfl) (by kernel_rfl) (by kernel_rfl) (fun _ _ _ h => h) (Or.inl ⟨by rfl, ?_⟩) (by assumption) ?_
    rotate_left
    first | (focus ((intro w hSw; (try dsimp only at hSw); go_simp); (try with_reducible rfl); done)) | fail
    try simp only [Act.put, List.getElem_toArray, List.getElem_cons_zero, List.getElem_cons_succ, List.setIfInBounds_toArray, List.set_cons_zero, List.set_cons_succ]
    refine wpAnyH_take (i := 5) (v := ?_) rfl (by kernel_rfl) (by kernel_rfl) (by kernel_rfl) (fun _ _ _ h => h) (Or.inl ⟨by rfl, ?_⟩) (by assumption) ?_
    rotate_left
    first | (focus ((intro w hSw; (try dsimp only at hSw); go_simp); (try with_reducible rfl); done)) | fail
    try simp only [Act.put, List.getElem_toArray, List.getElem_cons_zero, List.getElem_cons_succ, List.setIfInBounds_toArray, List.set_cons_zero, List.set_cons_succ]
    refine wpAnyH_ready (rs := [6]) (by kernel_rfl) (by simp) ?_
    refine AllReadyH.cons rfl (fun K hK => ?_) AllReadyH.nil
    go_simp
    refine (CH.out _ HA1.out.drew.om.seen.at_).mono ?_; rintro r w2 ⟨rfl, b2⟩
    go_wp2_with fail
    refine hK.out _ _ ?_ (fun hHeld => ?_)
    · (try dsimp only); exact (HA1.out.drew.up b2).S
    clear hK K
    try simp only [Act.put, List.getElem_toArray, List.getElem_cons_zero, List.getElem_cons_succ, List.setIfInBounds_toArray, List.set_cons_zero, List.set_cons_succ]
    refine wpAnyH_take (i := 7) (v := ?_) rfl (by kernel_rfl) (by kernel_rfl) (by kernel_rfl) (fun _ _ _ h => h) (Or.inl ⟨by rfl, ?_⟩) (by assumption) ?_
    rotate_left
    first | (focus ((intro w hSw; (try dsimp only at hSw); go_simp); (try with_reducible rfl); done)) | fail
    try simp only [Act.put, List.getElem_toArray, List.getElem_cons_zero, List.getElem_cons_succ, List.setIfInBounds_toArray, List.set_cons_zero, List.set_cons_succ]
    refine wpAnyH_done (by kernel_rfl) ?_ _
    have HA2 := Lib.hid (HA1.out.drew.up b2)
    have HB2 := Lib.hid (show Below w.heap.size w w2 from HB1.out.drew.trans (below_of_le b2 (by rw [HEE.out]; exact HL1.out)))
    have HL2 := Lib.hid (show E ≤ w2.heap.size from Nat.le_trans HL1.out b2.size)
    clear b2 CR CH HA1 HB1 HL1 HA HSZ HB
    cases hhas : vhasB M x.e.dot with
    | true =>
      have HE := Lib.hid (show ApplyE w N m kb ab db sv sb K AL D M x (.returned (.tuple #[.bool false, .int .i64 0])) w2 from .inr (.inl ⟨HV.out, hhas, rfl, HB2.out⟩))
      clear hhas
      go_wp2
      go_ret2
      exact HE.out
    | false =>
      have HN := Lib.hid hhas
      clear hhas
      have CG := Lib.hid (fun (W : World) (hW : VecAt W (some ⟨sv, 0, none⟩) M) => (show Calls _ _ #[_, .agg #[.int .i64 x.e.dot.1.1, .int .i64 x.e.dot.1.2]] _ _ from vcget_any x.e.dot.1 HRT.out.2.1 W _ M hW))
      have hmg : 0 ≤ mget M x.e.dot.1 ∧ mget M x.e.dot.1 ≤ 4294967296 := ⟨HST.out.vw.ge0 _, HST.out.vw.le _⟩
      have hw1 : IntKind.i64.wrap (mget M x.e.dot.1 + 1) = mget M x.e.dot.1 + 1 := by rw [IntKind.wrap_i64]; omega
      clear hmg
      go_wp2_with fail
      refine wp_region_held_drew (S := (fun W => W.cell? ⟨m, 0, none⟩ = some (.map (some kb)) ∧ W.cell? ⟨m, 3, none⟩ = some (.pointer (some ⟨sv, 0, none⟩)) ∧ W.cell? ⟨E, 0, none⟩ = some (.int .i64 x.e.dot.1.1) ∧ W.cell? ⟨E, 1, none⟩ = some (.int .i64 x.e.dot.1.2) ∧ W.cell? ⟨E, 2, none⟩ = some (.int .i64 x.e.dot.2) ∧ W.rangeAt E 0 (evA x.e x.A x.c).toList)) (by kernel_rfl) ?_ (fun hHeld => ?_)
      · (try dsimp only); exact HA2.out.drew.S
      refine wpAnyH_take (i := 0) (v := ?_) rfl (by kernel_rfl) (by kernel_rfl) (by kernel_rfl) (fun _ _ _ h => h) (Or.inl ⟨by rfl, ?_⟩) (by assumption) ?_
      rotate_left
      first | (focus ((intro w hSw; (try dsimp only at hSw); go_simp); (try with_reducible rfl); done)) | fail
      try simp only [Act.put, List.getElem_toArray, List.getElem_cons_zero, List.setIfInBounds_toArray, List.set_cons_zero, List.set_cons_succ]
      refine wpAnyH_take (i := 1) (v := ?_) rfl (by kernel_rfl) (by kernel_rfl) (by kernel_rfl) (fun _ _ _ h => h) (Or.inl ⟨by rfl, ?_⟩) (by assumption) ?_
      rotate_left
      first | (focus ((intro w hSw; (try dsimp only at hSw); go_simp); (try with_reducible rfl); done)) | fail
      try simp only [Act.put, List.getElem_toArray, List.getElem_cons_zero, List.getElem_cons_succ, List.setIfInBounds_toArray, List.set_cons_zero, List.set_cons_succ]
      refine wpAnyH_take (i := 2) (v := ?_) rfl (by kernel_rfl) (by kernel_rfl) (by kernel_rfl) (fun _ _ _ h => h) (Or.inl ⟨by rfl, ?_⟩) (by assumption) ?_
      rotate_left
      first | (focus ((intro w hSw; (try dsimp only at hSw); go_simp); (try with_reducible rfl); done)) | fail
      try simp only [Act.put, List.getElem_toArray, List.getElem_cons_zero, List.getElem_cons_succ, List.setIfInBounds_toArray, List.set_cons_zero, List.set_cons_succ]
      refine wpAnyH_take (i := 3) (v := ?_) rfl (by kernel_rfl) (by kernel_rfl) (by kernel_rfl) (fun _ _ _ h => h) (Or.inl ⟨by rfl, ?_⟩) (by assumption) ?_
      rotate_left
      first | (focus ((intro w hSw; (try dsimp only at hSw); go_simp); (try with_reducible rfl); done)) | fail
      try simp only [Act.put, List.getElem_toArray, List.getElem_cons_zero, List.getElem_cons_succ, List.setIfInBounds_toArray, List.set_cons_zero, List.set_cons_succ]
      refine wpAnyH_take (i := 4) (v := ?_) rfl (by kernel_rfl) (by kernel_rfl) (by kernel_rfl) (fun _ _ _ h => h) (Or.inl ⟨by rfl, ?_⟩) (by assumption) ?_
      rotate_left
      first | (focus ((intro w hSw; (try dsimp only at hSw); go_simp); (try with_reducible rfl); done)) | fail
      try simp only [Act.put, List.getElem_toArray, List.getElem_cons_zero, List.getElem_cons_succ, List.setIfInBounds_toArray, List.set_cons_zero, List.set_cons_succ]
      refine wpAnyH_take (i := 5) (v := ?_) rfl (by kernel_rfl) (by kernel_rfl) (by kernel_rfl) (fun _ _ _ h => h) (Or.inl ⟨by rfl, ?_⟩) (by assumption) ?_
      rotate_left
      first | (focus ((intro w hSw; (try dsimp only at hSw); go_simp); (try with_reducible rfl); done)) | fail
      try simp only [Act.put, List.getElem_toArray, List.getElem_cons_zero, List.getElem_cons_succ, List.setIfInBounds_toArray, List.set_cons_zero, List.set_cons_succ]
      refine wpAnyH_take (i := 6) (v := ?_) rfl (by kernel_rfl) (by kernel_rfl) (by kernel_rfl) (fun _ _ _ h => h) (Or.inl ⟨by rfl, ?_⟩) (by assumption) ?_
      rotate_left
      first | (focus ((intro w hSw; (try dsimp only at hSw); go_simp); (try with_reducible rfl); done)) | fail
      try simp only [Act.put, List.getElem_toArray, List.getElem_cons_zero, List.getElem_cons_succ, List.setIfInBounds_toArray, List.set_cons_zero, List.set_cons_succ]
      refine wpAnyH_take (i := 7) (v := ?_) rfl (by kernel_rfl) (by kernel_rfl) (by kernel_rfl) (fun _ _ _ h => h) (Or.inl ⟨by rfl, ?_⟩) (by assumption) ?_
      rotate_left
      first | (focus ((intro w hSw; (try dsimp only at hSw); go_simp); (try with_reducible rfl); done)) | fail
      try simp only [Act.put, List.getElem_toArray, List.getElem_cons_zero, List.getElem_cons_succ, List.setIfInBounds_toArray, List.set_cons_zero, List.set_cons_succ]
      refine wpAnyH_take (i := 8) (v := ?_) rfl (by kernel_rfl) (by kernel_rfl) (by kernel_rfl) (fun _ _ _ h => h) (Or.inl ⟨by rfl, ?_⟩) (by assumption) ?_
      rotate_left
      first | (focus ((intro w hSw; (try dsimp only at hSw); go_simp); (try with_reducible rfl); done)) | fail
      try simp only [Act.put, List.getElem_toArray, List.getElem_cons_zero, List.getElem_cons_succ, List.setIfInBounds_toArray, List.set_cons_zero, List.set_cons_succ]
      refine wpAnyH_take (i := 9) (v := ?_) rfl (by kernel_rfl) (by kernel_rfl) (by kernel_rfl) (fun _ _ _ h => h) (Or.inl ⟨by rfl, ?_⟩) (by assumption) ?_
      rotate_left
      first | (focus ((intro w hSw; (try dsimp only at hSw); go_simp); (try with_reducible rfl); done)) | fail
      try simp only [Act.put, List.getElem_toArray, List.getElem_cons_zero, List.getElem_cons_succ, List.setIfInBounds_toArray, List.set_cons_zero, List.set_cons_succ]
      refine wpAnyH_ready (rs := [10]) (by kernel_rfl) (by simp) ?_
      refine AllReadyH.cons rfl (fun K hK => ?_) AllReadyH.nil
      go_simp
      refine (CG.out _ HA2.out.drew.om.seen.at_).mono ?_; rintro r w3 ⟨rfl, b3⟩
      go_wp2_with fail
      refine hK.out _ _ ?_ (fun hHeld => ?_)
      · (try dsimp only); exact (HA2.out.drew.up b3).S
      clear hK K
      try simp only [Act.put, List.getElem_toArray, List.getElem_cons_zero, List.getElem_cons_succ, List.setIfInBounds_toArray, List.set_cons_zero, List.set_cons_succ]
      refine wpAnyH_take (i := 11) (v := ?_) rfl (by kernel_rfl) (by kernel_rfl) (by kernel_rfl) (fun _ _ _ h => h) (Or.inl ⟨by rfl, ?_⟩) (by assumption) ?_
      rotate_left
      first | (focus ((intro w hSw; (try dsimp only at hSw); go_simp); (try with_reducible rfl); done)) | fail
      try simp only [Act.put, List.getElem_toArray, List.getElem_cons_zero, List.getElem_cons_succ, List.setIfInBounds_toArray, List.set_cons_zero, List.set_cons_succ]
      refine wpAnyH_take (i := 12) (v := ?_) rfl (by kernel_rfl) (by kernel_rfl) (by kernel_rfl) (fun _ _ _ h => h) (Or.inl ⟨by rfl, ?_⟩) (by assumption) ?_
      rotate_left
      first | (focus ((intro w hSw; (try dsimp only at hSw); go_simp); (try with_reducible rfl); done)) | fail
      try simp only [Act.put, List.getElem_toArray, List.getElem_cons_zero, List.getElem_cons_succ, List.setIfInBounds_toArray, List.set_cons_zero, List.set_cons_succ]
      refine wpAnyH_take (i := 13) (v := ?_) rfl (by kernel_rfl) (by kernel_rfl) (by kernel_rfl) (fun _ _ _ h => h) (Or.inl ⟨by rfl, ?_⟩) (by assumption) ?_
      rotate_left
      first | (focus ((intro w hSw; (try dsimp only at hSw); go_simp); (try with_reducible rfl); done)) | fail
      try simp only [Act.put, List.getElem_toArray, List.getElem_cons_zero, List.getElem_cons_succ, List.setIfInBounds_toArray, List.set_cons_zero, List.set_cons_succ]
      refine wpAnyH_done (by kernel_rfl) ?_ _
      have HA3 := Lib.hid (HA2.out.drew.up b3)
      have HB3 := Lib.hid (show Below w.heap.size w w3 from HB2.out.drew.trans (below_of_le b3 (by rw [HEE.out]; exact HL2.out)))
      have HL3 := Lib.hid (show E ≤ w3.heap.size from Nat.le_trans HL2.out b3.size)
      clear b3 CG HA2 HB2 HL2 hw1
      by_cases hq : mget M x.e.dot.1 + 1 = x.e.dot.2
      · have hne : ∀ y ∈ K, y.e.dot ≠ x.e.dot := by
          intro y hy e
          have := (HST.out.vc x.e.dot.1 x.e.dot.2 HRT.out.1).2 ⟨y, hy, e⟩
          omega
        have t1 : (x.e.dot.2 != mget M x.e.dot.1 + 1) = false := by rw [← hq]; simp
        have HQ := Lib.hid (And.intro hq hne)
        have CO := Lib.hid (ormroom_any w3 N m kb ab db sv sb K AL D M HA3.out.om (by omega))
        have CT := Lib.hid (show Calls _ _ #[_, .agg #[.int .i64 x.e.dot.1.1, .int .i64 x.e.dot.1.2, .int .i64 x.e.dot.2]] _ _ from vctake_on x.e.dot w3.drew sv sb M HA3.out.drew.om.seen HRT.out.1 hq)
        clear hq hne
        go_wp2_with fail
        refine CO.out.mono ?_; rintro r w4 ⟨rfl, rfl⟩
        clear t1
        go_wp2_with fail
        refine wp_region_held_drew (S := (fun W => W.cell? ⟨m, 0, none⟩ = some (.map (some kb)) ∧ W.cell? ⟨m, 3, none⟩ = some (.pointer (some ⟨sv, 0, none⟩)) ∧ W.cell? ⟨E, 0, none⟩ = some (.int .i64 x.e.dot.1.1) ∧ W.cell? ⟨E, 1, none⟩ = some (.int .i64 x.e.dot.1.2) ∧ W.cell? ⟨E, 2, none⟩ = some (.int .i64 x.e.dot.2) ∧ W.rangeAt E 0 (evA x.e x.A x.c).toList)) (by kernel_rfl) ?_ (fun hHeld => ?_)
        · (try dsimp only); exact HA3.out.drew.S
        refine wpAnyH_take (i := 0) (v := ?_) rfl (by kernel_rfl) (by kernel_rfl) (by kernel_rfl) (fun _ _ _ h => h) (Or.inl ⟨by rfl, ?_⟩) (by assumption) ?_
        rotate_left
        first | (focus ((intro w hSw; (try dsimp only at hSw); go_simp); (try with_reducible rfl); done)) | fail
        try simp only [Act.put, List.getElem_toArray, List.getElem_cons_zero, List.setIfInBounds_toArray, List.set_cons_zero, List.set_cons_succ]
        refine wpAnyH_take (i := 1) (v := ?_) rfl (by kernel_rfl) (by kernel_rfl) (by kernel_rfl) (fun _ _ _ h => h) (Or.inl ⟨by rfl, ?_⟩) (by assumption) ?_
        rotate_left
        first | (focus ((intro w hSw; (try dsimp only at hSw); go_simp); (try with_reducible rfl); done)) | fail
        try simp only [Act.put, List.getElem_toArray, List.getElem_cons_zero, List.getElem_cons_succ, List.setIfInBounds_toArray, List.set_cons_zero, List.set_cons_succ]
        refine wpAnyH_take (i := 2) (v := ?_) rfl (by kernel_rfl) (by kernel_rfl) (by kernel_rfl) (fun _ _ _ h => h) (Or.inl ⟨by rfl, ?_⟩) (by assumption) ?_
        rotate_left
        first | (focus ((intro w hSw; (try dsimp only at hSw); go_simp); (try with_reducible rfl); done)) | fail
        try simp only [Act.put, List.getElem_toArray, List.getElem_cons_zero, List.getElem_cons_succ, List.setIfInBounds_toArray, List.set_cons_zero, List.set_cons_succ]
        refine wpAnyH_take (i := 3) (v := ?_) rfl (by kernel_rfl) (by kernel_rfl) (by kernel_rfl) (fun _ _ _ h => h) (Or.inl ⟨by rfl, ?_⟩) (by assumption) ?_
        rotate_left
        first | (focus ((intro w hSw; (try dsimp only at hSw); go_simp); (try with_reducible rfl); done)) | fail
        try simp only [Act.put, List.getElem_toArray, List.getElem_cons_zero, List.getElem_cons_succ, List.setIfInBounds_toArray, List.set_cons_zero, List.set_cons_succ]
        refine wpAnyH_take (i := 4) (v := ?_) rfl (by kernel_rfl) (by kernel_rfl) (by kernel_rfl) (fun _ _ _ h => h) (Or.inl ⟨by rfl, ?_⟩) (by assumption) ?_
        rotate_left
        first | (focus ((intro w hSw; (try dsimp only at hSw); go_simp); (try with_reducible rfl); done)) | fail
        try simp only [Act.put, List.getElem_toArray, List.getElem_cons_zero, List.getElem_cons_succ, List.setIfInBounds_toArray, List.set_cons_zero, List.set_cons_succ]
        refine wpAnyH_take (i := 5) (v := ?_) rfl (by kernel_rfl) (by kernel_rfl) (by kernel_rfl) (fun _ _ _ h => h) (Or.inl ⟨by rfl, ?_⟩) (by assumption) ?_
        rotate_left
        first | (focus ((intro w hSw; (try dsimp only at hSw); go_simp); (try with_reducible rfl); done)) | fail
        try simp only [Act.put, List.getElem_toArray, List.getElem_cons_zero, List.getElem_cons_succ, List.setIfInBounds_toArray, List.set_cons_zero, List.set_cons_succ]
        refine wpAnyH_ready (rs := [6]) (by kernel_rfl) (by simp) ?_
        refine AllReadyH.cons rfl (fun K hK => ?_) AllReadyH.nil
        go_simp
        refine CT.out.mono ?_; rintro r w5 ⟨rfl, hv5, hc5⟩; have HA5 := Lib.hid (HA3.out.drew.ch Om.mem_sb (HA3.out.drew.om.setSeen hc5 hv5) hc5)
        go_wp2_with fail
        refine hK.out _ _ ?_ (fun hHeld => ?_)
        · (try dsimp only); exact HA5.out.S
        clear hK K
        try simp only [Act.put, List.getElem_toArray, List.getElem_cons_zero, List.getElem_cons_succ, List.setIfInBounds_toArray, List.set_cons_zero, List.set_cons_succ]
        refine wpAnyH_done (by kernel_rfl) ?_ _
        clear CT CO hv5 hc5 HA3 HB3
        have CC := Lib.hid (evclone_any w5.drew x HA5.out.drew.ov (by have := (evB_over HV.out).1; omega))
        go_wp2_with fail
        refine wp_region_held_drew (S := (fun W => W.cell? ⟨m, 0, none⟩ = some (.map (some kb)) ∧ W.cell? ⟨m, 3, none⟩ = some (.pointer (some ⟨sv, 0, none⟩)) ∧ W.cell? ⟨E, 0, none⟩ = some (.int .i64 x.e.dot.1.1) ∧ W.cell? ⟨E, 1, none⟩ = some (.int .i64 x.e.dot.1.2) ∧ W.cell? ⟨E, 2, none⟩ = some (.int .i64 x.e.dot.2) ∧ W.rangeAt E 0 (evA x.e x.A x.c).toList)) (by kernel_rfl) ?_ (fun hHeld => ?_)
        · (try dsimp only); exact HA5.out.drew.S
        refine wpAnyH_take (i := 0) (v := ?_) rfl (by kernel_rfl) (by kernel_rfl) (by kernel_rfl) (fun _ _ _ h => h) (Or.inl ⟨by rfl, ?_⟩) (by assumption) ?_
        rotate_left
        first | (focus ((intro w hSw; (try dsimp only at hSw); go_simp); (try with_reducible rfl); done)) | fail
        try simp only [Act.put, List.getElem_toArray, List.getElem_cons_zero, List.setIfInBounds_toArray, List.set_cons_zero, List.set_cons_succ]
        refine wpAnyH_take (i := 1) (v := ?_) rfl (by kernel_rfl) (by kernel_rfl) (by kernel_rfl) (fun _ _ _ h => h) (Or.inl ⟨by rfl, ?_⟩) (by assumption) ?_
        rotate_left
        first | (focus ((intro w hSw; (try dsimp only at hSw); go_simp); (try with_reducible rfl); done)) | fail
        try simp only [Act.put, List.getElem_toArray, List.getElem_cons_zero, List.getElem_cons_succ, List.setIfInBounds_toArray, List.set_cons_zero, List.set_cons_succ]
        refine wpAnyH_take (i := 2) (v := ?_) rfl (by kernel_rfl) (by kernel_rfl) (by kernel_rfl) (fun _ _ _ h => h) (Or.inl ⟨by rfl, ?_⟩) (by assumption) ?_
        rotate_left
        first | (focus ((intro w hSw; (try dsimp only at hSw); go_simp); (try with_reducible rfl); done)) | fail
        try simp only [Act.put, List.getElem_toArray, List.getElem_cons_zero, List.getElem_cons_succ, List.setIfInBounds_toArray, List.set_cons_zero, List.set_cons_succ]
        refine wpAnyH_take (i := 3) (v := ?_) rfl (by kernel_rfl) (by kernel_rfl) (by kernel_rfl) (fun _ _ _ h => h) (Or.inl ⟨by rfl, ?_⟩) (by assumption) ?_
        rotate_left
        first | (focus ((intro w hSw; (try dsimp only at hSw); go_simp); (try with_reducible rfl); done)) | fail
        try simp only [Act.put, List.getElem_toArray, List.getElem_cons_zero, List.getElem_cons_succ, List.setIfInBounds_toArray, List.set_cons_zero, List.set_cons_succ]
        refine wpAnyH_take (i := 4) (v := ?_) rfl (by kernel_rfl) (by kernel_rfl) (by kernel_rfl) (fun _ _ _ h => h) (Or.inl ⟨by rfl, ?_⟩) (by assumption) ?_
        rotate_left
        first | (focus ((intro w hSw; (try dsimp only at hSw); go_simp); (try with_reducible rfl); done)) | fail
        try simp only [Act.put, List.getElem_toArray, List.getElem_cons_zero, List.getElem_cons_succ, List.setIfInBounds_toArray, List.set_cons_zero, List.set_cons_succ]
        refine wpAnyH_take (i := 5) (v := ?_) rfl (by kernel_rfl) (by kernel_rfl) (by kernel_rfl) (fun _ _ _ h => h) (Or.inl ⟨by rfl, ?_⟩) (by assumption) ?_
        rotate_left
        first | (focus ((intro w hSw; (try dsimp only at hSw); go_simp); (try with_reducible rfl); done)) | fail
        try simp only [Act.put, List.getElem_toArray, List.getElem_cons_zero, List.getElem_cons_succ, List.setIfInBounds_toArray, List.set_cons_zero, List.set_cons_succ]
        refine wpAnyH_take (i := 6) rfl (by kernel_rfl) (by kernel_rfl) (by kernel_rfl) (fun _ _ _ h => h) (take_range rfl _ rfl rfl (fun w h => h.2.2.2.2.2) Tryz.underlying59 rfl (by kernel_rfl)) (by assumption) ?_
        try simp only [Act.put, List.getElem_toArray, List.getElem_cons_zero, List.getElem_cons_succ, List.setIfInBounds_toArray, List.set_cons_zero, List.set_cons_succ]
        refine wpAnyH_ready (rs := [7]) (by kernel_rfl) (by simp) ?_
        refine AllReadyH.cons rfl (fun K hK => ?_) AllReadyH.nil
        go_simp
        refine CC.out.mono ?_; rintro r w6 ⟨A, c, rfl, hm6o, b6⟩; have hm6 := MsAt.own hm6o; have HA6 := Lib.hid (HA5.out.drew.up b6)
        go_wp2_with fail
        refine hK.out _ _ ?_ (fun hHeld => ?_)
        · (try dsimp only); exact HA6.out.S
        clear hK K
        try simp only [Act.put, List.getElem_toArray, List.getElem_cons_zero, List.getElem_cons_succ, List.setIfInBounds_toArray, List.set_cons_zero, List.set_cons_succ]
        obtain ⟨w7, q7, ho7, hc7⟩ := HA6.out.om.keep (x := ⟨x.e, A, c⟩) HRT.out.2.2 HQ.out.2 (by omega) hm6
        have q7 : (Instr.mapUpdate 89 (.map (some kb)) (.agg #[.int .i64 x.e.dot.1.1, .int .i64 x.e.dot.1.2, .int .i64 x.e.dot.2]) (.agg (evA x.e A c))).run Tryz.prog w6 = .ok () w7 := q7
        have HA7 := Lib.hid (HA6.out.ch Om.mem_kb ho7 hc7)
        refine wpAnyH_ready (rs := [8]) (by kernel_rfl) (by simp) ?_
        refine AllReadyH.cons rfl (fun K hK => ?_) AllReadyH.nil
        go_simp
        refine hK.out _ _ ?_ (fun hHeld => ?_)
        · (try dsimp only); exact HA7.out.S
        clear hK K
        try simp only [Act.put, List.getElem_toArray, List.getElem_cons_zero, List.getElem_cons_succ, List.setIfInBounds_toArray, List.set_cons_zero, List.set_cons_succ]
        refine wpAnyH_done (by kernel_rfl) ?_ _
        clear CC hm6o hm6 b6 HA5 HA6 q7 ho7 hc7
        have HKL := Lib.hid (show (K ++ [(⟨x.e, A, c⟩ : El)]).length ≤ 1000 by simp; omega)
        have c6 : w7.cell? ⟨E, 6, none⟩ = some (.int .i64 x.e.kind) := by rw [HA7.out.ev.cell]; rfl
        have CD := Lib.hid (fun (W : World) hW => show Calls _ _ #[_, .agg #[.int .i64 x.e.dot.1.1, .int .i64 x.e.dot.1.2, .int .i64 x.e.dot.2]] _ _ from ormdead_any W N m kb ab db sv sb (K ++ [⟨x.e, A, c⟩]) AL D (rset M x.e.dot.1 x.e.dot.2) hW x.e.dot HRT.out.2.2)
        have HKY := Lib.hid (show ∀ y ∈ K ++ [(⟨x.e, A, c⟩ : El)], kyOk (kyE y.e) from fun y hy => by
          rcases List.mem_append.1 hy with hy | hy
          · exact HST.out.kyOks y hy
          · simp at hy; subst hy; exact kyOk_lg HLg.out)
        by_cases hk : x.e.kind = 1
        · rw [hk] at c6
          have hc7' := HA7.out.S
          obtain ⟨_, _, d0, d1, d2, _⟩ := hc7'
          have HK1 := Lib.hid hk
          clear hk
          go_wp2_with fail
          refine (CD.out _ HA7.out.om).mono ?_; rintro r w8 ⟨rfl, b8⟩
          have HA8 := Lib.hid (HA7.out.up b8)
          clear b8 c6 d0 d1 d2 HA7 CD
          by_cases hd : x.e.dot ∈ D
          · have HKI := Lib.hid (HST.out.noPut (x := ⟨x.e, A, c⟩) (fun h => h.2 hd))
            have hdd : decide (x.e.dot ∈ D) = true := decide_eq_true hd
            rw [hdd]
            clear hdd hd
            have c18 : w8.cell? ⟨E, 18, none⟩ = some (.slice x.A x.e.over.length x.c) := by rw [HA8.out.ev.cell]; rfl
            have h64 := (evB_over HV.out).1
            generalize hn : x.e.over.length = n at c18 h64
            have HNn := Lib.hid hn
            clear hn
            go_wp2_with fail
            go_loopw [72] (fun i wr => ∃ (j : Nat) (AL' : List (Ky × Nat × List Dt)) (D' : List Dt), j ≤ n ∧ i = .int .i64 j ∧ ApS w N m kb ab db sv sb (K ++ [⟨x.e, A, c⟩]) AL' D' (rset M x.e.dot.1 x.e.dot.2) E x wr ∧ KillI (K ++ [⟨x.e, A, c⟩]) D x.e.over j AL' D') (fun i _ => n - (intOf i).toNat)
            case atStart => exact ⟨0, AL, D, by omega, rfl, HA8.out, HKI.out⟩
            case round =>
              obtain ⟨j, AL', D', hj, rfl, hA, hKi⟩ := hrel
              have HA9 := Lib.hid hA
              have HK9 := Lib.hid hKi
              clear hA hKi c18
              by_cases hlt : j < n
              · obtain ⟨d, hd⟩ : ∃ d, x.e.over[j]? = some d := ⟨x.e.over[j]'(by have := HNn.out; omega), List.getElem?_eq_getElem _⟩
                obtain ⟨b0, o0, hAe, hbN, k0, k1, k2⟩ := Ds.at_ HA9.out.ov hd
                rw [hAe]
                have HD := Lib.hid (And.intro hd ((evB_over HV.out).2 d (List.mem_of_getElem? hd)))
                have HAE := Lib.hid hAe
                clear hd hAe
                go_wp2_with fail
                have HA10 := Lib.hid (HA9.out.up ((Below.refl _ _).alloc (Nat.le_refl _) (.cells #[.int .i64 d.1.1, .int .i64 d.1.2, .int .i64 d.2] 50)))
                refine (show Calls _ _ #[_, .agg #[.int .i64 d.1.1, .int .i64 d.1.2, .int .i64 d.2]] _ _ from ormkill_any _ N m kb ab db sv sb _ AL' D' _ HA10.out.om d (dtOk_right HD.out.2) HK9.out.alIn HKY.out HK9.out.ne _ (by have := HKL.out; omega) HK9.out.le (by have h1 := HK9.out.dl; have h2 := HST.out.dl; omega) HA10.out.le).mono ?_; rintro r w11 ⟨rfl, AL2, ho11, h11, hl11, ha11, hc11⟩
                have HA11 := Lib.hid (HA10.out.chs ho11 hc11)
                have HK11 := Lib.hid (HK9.out.step HD.out.1 h11 hl11 ha11)
                clear ho11 h11 hl11 ha11 hc11 HA10
                go_wp2_with fail
                go_roundw
                case rel => exact ⟨j + 1, AL2, _, by omega, by go_num, HA11.out, HK11.out⟩
                case measure => simp [intOf]; omega
              · have hj' : j = n := by omega
                subst hj'
                have HE := Lib.hid (show ApplyE w N m kb ab db sv sb K AL D M x (.returned (.tuple #[.bool true, .int .i64 0])) wr from .inr (.inr (.inr ⟨HV.out, HN.out, HQ.out.1, rfl, A, c, AL', D', _, HA9.out.om, HST.out.done (x := ⟨x.e, A, c⟩) HV.out HLg.out HQ.out.1 (by rw [HNn.out]; exact HK9.out), HA9.out.be, HA9.out.cm⟩)))
                go_wp2
                go_ret2
                exact HE.out
          · have hdd : decide (x.e.dot ∈ D) = false := decide_eq_false hd
            have CL := Lib.hid (ormlive_any w8 N m kb ab db sv sb (K ++ [⟨x.e, A, c⟩]) AL D (rset M x.e.dot.1 x.e.dot.2) HA8.out.om x HRT.out.2.2 (kyOk_lg HLg.out) HST.out.ne K.length (by omega) HST.out.le HA8.out.le)
            have HND := Lib.hid hd
            rw [hdd]
            clear hdd hd
            go_wp2_with (refine ld_whole (by rfl) _ rfl rfl HA8.out.ev Tryz.underlying59 rfl (by kernel_rfl) ?_)
            refine CL.out.mono ?_; rintro r w9 ⟨rfl, AL9, ho9, hn9, hl9, ha9, hc9⟩
            have HAL := Lib.hid (HA8.out.chs ho9 hc9)
            have HKI := Lib.hid (HST.out.put (x := ⟨x.e, A, c⟩) ⟨HK1.out, HND.out⟩ hn9 hl9 ha9)
            clear ho9 hn9 hl9 ha9 hc9 CL HA8
            have c18 : w9.cell? ⟨E, 18, none⟩ = some (.slice x.A x.e.over.length x.c) := by rw [HAL.out.ev.cell]; rfl
            have h64 := (evB_over HV.out).1
            generalize hn : x.e.over.length = n at c18 h64
            have HNn := Lib.hid hn
            clear hn
            go_wp2_with fail
            go_loopw [72] (fun i wr => ∃ (j : Nat) (AL' : List (Ky × Nat × List Dt)) (D' : List Dt), j ≤ n ∧ i = .int .i64 j ∧ ApS w N m kb ab db sv sb (K ++ [⟨x.e, A, c⟩]) AL' D' (rset M x.e.dot.1 x.e.dot.2) E x wr ∧ KillI (K ++ [⟨x.e, A, c⟩]) D x.e.over j AL' D') (fun i _ => n - (intOf i).toNat)
            case atStart => exact ⟨0, AL9, D, by omega, rfl, HAL.out, HKI.out⟩
            case round =>
              obtain ⟨j, AL', D', hj, rfl, hA, hKi⟩ := hrel
              have HA9 := Lib.hid hA
              have HK9 := Lib.hid hKi
              clear hA hKi c18
              by_cases hlt : j < n
              · obtain ⟨d, hd⟩ : ∃ d, x.e.over[j]? = some d := ⟨x.e.over[j]'(by have := HNn.out; omega), List.getElem?_eq_getElem _⟩
                obtain ⟨b0, o0, hAe, hbN, k0, k1, k2⟩ := Ds.at_ HA9.out.ov hd
                rw [hAe]
                have HD := Lib.hid (And.intro hd ((evB_over HV.out).2 d (List.mem_of_getElem? hd)))
                have HAE := Lib.hid hAe
                clear hd hAe
                go_wp2_with fail
                have HA10 := Lib.hid (HA9.out.up ((Below.refl _ _).alloc (Nat.le_refl _) (.cells #[.int .i64 d.1.1, .int .i64 d.1.2, .int .i64 d.2] 50)))
                refine (show Calls _ _ #[_, .agg #[.int .i64 d.1.1, .int .i64 d.1.2, .int .i64 d.2]] _ _ from ormkill_any _ N m kb ab db sv sb _ AL' D' _ HA10.out.om d (dtOk_right HD.out.2) HK9.out.alIn HKY.out HK9.out.ne _ (by have := HKL.out; omega) HK9.out.le (by have h1 := HK9.out.dl; have h2 := HST.out.dl; omega) HA10.out.le).mono ?_; rintro r w11 ⟨rfl, AL2, ho11, h11, hl11, ha11, hc11⟩
                have HA11 := Lib.hid (HA10.out.chs ho11 hc11)
                have HK11 := Lib.hid (HK9.out.step HD.out.1 h11 hl11 ha11)
                clear ho11 h11 hl11 ha11 hc11 HA10
                go_wp2_with fail
                go_roundw
                case rel => exact ⟨j + 1, AL2, _, by omega, by go_num, HA11.out, HK11.out⟩
                case measure => simp [intOf]; omega
              · have hj' : j = n := by omega
                subst hj'
                have HE := Lib.hid (show ApplyE w N m kb ab db sv sb K AL D M x (.returned (.tuple #[.bool true, .int .i64 0])) wr from .inr (.inr (.inr ⟨HV.out, HN.out, HQ.out.1, rfl, A, c, AL', D', _, HA9.out.om, HST.out.done (x := ⟨x.e, A, c⟩) HV.out HLg.out HQ.out.1 (by rw [HNn.out]; exact HK9.out), HA9.out.be, HA9.out.cm⟩)))
                go_wp2
                go_ret2
                exact HE.out
        · have t1 : (x.e.kind == 1) = false := beq_eq_false_iff_ne.2 hk
          have t2 : decide (x.e.kind = 1) = false := decide_eq_false hk
          have HKI := Lib.hid (HST.out.noPut (x := ⟨x.e, A, c⟩) (fun h => hk h.1))
          clear hk CD
          have c18 : w7.cell? ⟨E, 18, none⟩ = some (.slice x.A x.e.over.length x.c) := by rw [HA7.out.ev.cell]; rfl
          have h64 := (evB_over HV.out).1
          generalize hn : x.e.over.length = n at c18 h64
          have HNn := Lib.hid hn
          clear hn
          go_wp2_with fail
          go_loopw [72] (fun i wr => ∃ (j : Nat) (AL' : List (Ky × Nat × List Dt)) (D' : List Dt), j ≤ n ∧ i = .int .i64 j ∧ ApS w N m kb ab db sv sb (K ++ [⟨x.e, A, c⟩]) AL' D' (rset M x.e.dot.1 x.e.dot.2) E x wr ∧ KillI (K ++ [⟨x.e, A, c⟩]) D x.e.over j AL' D') (fun i _ => n - (intOf i).toNat)
          case atStart => exact ⟨0, AL, D, by omega, rfl, HA7.out, HKI.out⟩
          case round =>
            obtain ⟨j, AL', D', hj, rfl, hA, hKi⟩ := hrel
            have HA9 := Lib.hid hA
            have HK9 := Lib.hid hKi
            clear hA hKi c18
            by_cases hlt : j < n
            · obtain ⟨d, hd⟩ : ∃ d, x.e.over[j]? = some d := ⟨x.e.over[j]'(by have := HNn.out; omega), List.getElem?_eq_getElem _⟩
              obtain ⟨b0, o0, hAe, hbN, k0, k1, k2⟩ := Ds.at_ HA9.out.ov hd
              rw [hAe]
              have HD := Lib.hid (And.intro hd ((evB_over HV.out).2 d (List.mem_of_getElem? hd)))
              have HAE := Lib.hid hAe
              clear hd hAe
              go_wp2_with fail
              have HA10 := Lib.hid (HA9.out.up ((Below.refl _ _).alloc (Nat.le_refl _) (.cells #[.int .i64 d.1.1, .int .i64 d.1.2, .int .i64 d.2] 50)))
              refine (show Calls _ _ #[_, .agg #[.int .i64 d.1.1, .int .i64 d.1.2, .int .i64 d.2]] _ _ from ormkill_any _ N m kb ab db sv sb _ AL' D' _ HA10.out.om d (dtOk_right HD.out.2) HK9.out.alIn HKY.out HK9.out.ne _ (by have := HKL.out; omega) HK9.out.le (by have h1 := HK9.out.dl; have h2 := HST.out.dl; omega) HA10.out.le).mono ?_; rintro r w11 ⟨rfl, AL2, ho11, h11, hl11, ha11, hc11⟩
              have HA11 := Lib.hid (HA10.out.chs ho11 hc11)
              have HK11 := Lib.hid (HK9.out.step HD.out.1 h11 hl11 ha11)
              clear ho11 h11 hl11 ha11 hc11 HA10
              go_wp2_with fail
              go_roundw
              case rel => exact ⟨j + 1, AL2, _, by omega, by go_num, HA11.out, HK11.out⟩
              case measure => simp [intOf]; omega
            · have hj' : j = n := by omega
              subst hj'
              have HE := Lib.hid (show ApplyE w N m kb ab db sv sb K AL D M x (.returned (.tuple #[.bool true, .int .i64 0])) wr from .inr (.inr (.inr ⟨HV.out, HN.out, HQ.out.1, rfl, A, c, AL', D', _, HA9.out.om, HST.out.done (x := ⟨x.e, A, c⟩) HV.out HLg.out HQ.out.1 (by rw [HNn.out]; exact HK9.out), HA9.out.be, HA9.out.cm⟩)))
              go_wp2
              go_ret2
              exact HE.out
      · have t1 : (x.e.dot.2 != mget M x.e.dot.1 + 1) = true := bne_iff_ne.2 (fun e => hq e.symm)
        have HE := Lib.hid (show ApplyE w N m kb ab db sv sb K AL D M x (.returned (.tuple #[.bool false, .int .i64 6])) w3 from .inr (.inr (.inl ⟨HV.out, HN.out, hq, rfl, HB3.out⟩)))
        clear hq
        go_wp2
        go_ret2
        exact HE.out
end Go.Proofs.YtpakmeegldgjmaaGreat
/- Layer 21 (ormap): sorted. -/
namespace Go.Proofs.YtpakmeegldgjmaaGreat
open Go.RowKit
set_option linter.unusedVariables false
set_option linter.unusedSimpArgs false
set_option maxRecDepth 100000
attribute [local go_sem ↓] Go.wp_at_zero Go.wp_at_succ

/-- The event that is kept at a dot. -/
def kEd : List El → Dt → Ed
  | [], _ => e00.e
  | x :: r, d => if x.e.dot = d then x.e else kEd r d
theorem kEd_mem {K : List El} (h : (K.map fun x => x.e.dot).Nodup) {x : El} (hx : x ∈ K) : kEd K x.e.dot = x.e := by
  induction K with
  | nil => cases hx
  | cons y r ih =>
    simp only [List.map_cons, List.nodup_cons] at h
    unfold kEd
    rcases List.mem_cons.1 hx with rfl | hx1
    · rw [if_pos rfl]
    · rw [if_neg (fun e => h.1 (List.mem_map.2 ⟨x, hx1, e.symm⟩))]
      exact ih h.2 hx1
/-- Events that the call has made. -/
structure SoS (w : World) (N0 : Nat) (W : World) (A : Option Addr) (c : Nat) (Es : List El) : Prop where
  ow : Own W N0 59 19 A Es.length c (Es.flatMap elC)
  ov : ∀ y ∈ Es, Own W N0 50 3 y.A y.e.over.length y.c (dts y.e.over)
  be : Below N0 w W
  le : N0 ≤ W.heap.size
section
variable {w W W' : World} {N0 c c' : Nat} {A A' : Option Addr} {Es : List El} {y : El}
theorem SoS.start (w : World) : SoS w w.heap.size w none 0 [] := ⟨Own.nil_, by simp, Below.refl _ _, Nat.le_refl _⟩
theorem SoS.up (h : SoS w N0 W A c Es) (b : Below W.heap.size W W') : SoS w N0 W' A c Es :=
  ⟨h.ow.below b (Nat.le_refl _), fun y hy => (h.ov y hy).below b (Nat.le_refl _), h.be.trans (below_of_le b h.le), Nat.le_trans h.le b.size⟩
theorem SoS.drew (h : SoS w N0 W A c Es) : SoS w N0 W.drew A c Es := h.up (Below.refl _ _).drew
theorem SoS.app (h : SoS w N0 W A c Es) (hy : Own W N0 50 3 y.A y.e.over.length y.c (dts y.e.over)) (ho : Own W' N0 59 19 A' (Es.length + 1) c' (Es.flatMap elC ++ elC y)) (hc : Ch (fun k => some k = bl A) W W') : SoS w N0 W' A' c' (Es ++ [y]) := by
  refine ⟨?_, fun z hz => ?_, h.be.trans (hc.below (fun k hk e => absurd (h.ow.bl_lo k e.symm) (by omega)) h.le), Nat.le_trans h.le hc.size⟩
  · rw [List.length_append, List.flatMap_append]
    simpa using ho
  · have hz' : Own W N0 50 3 z.A z.e.over.length z.c (dts z.e.over) := by
      rcases List.mem_append.1 hz with hz | hz
      · exact h.ov z hz
      · simp at hz; subst hz; exact hy
    exact hz'.ch hc (fun k _ _ hk e => hz'.apart h.ow (by decide) k hk e.symm)
theorem SoS.at_ (h : SoS w N0 W A c Es) : EsAt W W.heap.size A Es := ⟨h.ow.rd, fun y hy => (h.ov y hy).ds⟩
end
theorem Om.look_at {w : World} {N m kb ab db sv sb : Nat} {K : List El} {AL : List (Ky × Nat × List Dt)} {D M : List Dt} (h : Om w N m kb ab db sv sb K AL D M) {x : El} (hx : x ∈ K) (ok : dtOk x.e.dot) : (Instr.lookup 89 (.map (some kb)) (dtV x.e.dot) false).run Tryz.prog w = .ok (.agg (evA x.e x.A x.c)) w := by
  have := h.kept.lookup dot_key Tryz.underlying89 (Tryz.zeroValue59 _) ok
  have hm : ((x.e.dot, Value.agg (evA x.e x.A x.c)) : Dt × Value) ∈ keptV K := List.mem_map.2 ⟨x, hx, rfl⟩
  rw [mvget_mem _ h.kept.2.1 hm] at this
  exact this
/-- A slice of events whose Overs are all slices of dots that somebody made. -/
structure EsO (w : World) (A : Option Addr) (c : Nat) (Es : List El) : Prop where
  at_ : EsAt w w.heap.size A Es
  len : Es.length ≤ c
  cap : c ≤ maxLen
  ow : ∀ y ∈ Es, ∃ N0, Own w N0 50 3 y.A y.e.over.length y.c (dts y.e.over)
theorem SoS.eso {w W : World} {N0 c : Nat} {A : Option Addr} {Es : List El} (h : SoS w N0 W A c Es) : EsO W A c Es := ⟨h.at_, h.ow.2.1, h.ow.2.2, fun y hy => ⟨_, h.ov y hy⟩⟩
/-- Events in order. -/
def SortedE (w : World) (K : List El) (L : List Dt) (e : Ending) (w' : World) : Prop := ∃ A c Es, e = .returned (.slice A (Es : List El).length c) ∧ EsO w' A c Es ∧ eds Es = (dsort L).map (kEd K) ∧ Below w.heap.size w w'
set_option maxHeartbeats 4000000 in
theorem ormsorted_any (w : World) (N m kb ab db sv sb : Nat) (K : List El) (AL : List (Ky × Nat × List Dt)) (D M : List Dt) (h : Om w N m kb ab db sv sb K AL D M) (hs : OmSt K AL D M) (A : Option Addr) (c : Nat) (L : List Dt) (hL : MsAt w A L) (hin : ∀ d ∈ L, ∃ x ∈ K, x.e.dot = d) (hn : L.length ≤ 1000000) :
    Calls Tryz.prog 52 #[.pointer (some ⟨m, 0, none⟩), .slice A L.length c] w (SortedE w K L) := by
  have HO := Lib.hid h
  have HST := Lib.hid hs
  have hdk : ∀ x ∈ K, dtOk x.e.dot := fun x hx => dtOk_right (evB_right (hs.ev x hx).1)
  have HIN := Lib.hid (And.intro hin hdk)
  have CS := Lib.hid (sort_any w w.heap.size A c L hL (Nat.le_refl _) (fun d hd => by obtain ⟨x, hx, rfl⟩ := hin d hd; exact hdk x hx) hn)
  have HLn := Lib.hid (Nat.le_trans (dsort_len L) hn)
  generalize L.length = n0 at *
  clear h hs hdk hin hL
  go_enter Tryz.func52, Tryz.ntmps52
  go_wp2_with fail
  refine CS.out.mono ?_; rintro r w1 ⟨A1, c1, rfl, ho1, b1⟩
  have HD := Lib.hid (show MsAt w1 A1 (dsort L) from MsAt.own ho1)
  have HO1 := Lib.hid (HO.out.up b1)
  have HB1 := Lib.hid b1
  clear CS ho1 b1
  generalize hlen : (dsort L).length = n at *
  have HNn := Lib.hid hlen
  clear hlen
  go_wp2_with fail
  go_loopw [5, 11] (fun s i wr => ∃ (j : Nat) (A2 : Option Addr) (c2 : Nat) (Es : List El), j ≤ n ∧ i = .int .i64 j ∧ s = .slice A2 j c2 ∧ Es.length = j ∧ eds Es = ((dsort L).take j).map (kEd K) ∧ SoS w1 w1.heap.size wr A2 c2 Es) (fun s i _ => n - (intOf i).toNat)
  case atStart => exact ⟨0, none, 0, [], by omega, rfl, rfl, rfl, rfl, SoS.start w1⟩
  case round =>
    obtain ⟨j, A2, c2, Es, hj, rfl, rfl, hEl, hEs, hS⟩ := hrel
    have HS := Lib.hid hS
    have HE := Lib.hid (And.intro hEl hEs)
    have hnn : n ≤ 1000000 := by have := HLn.out; have := HNn.out; omega
    clear hS hEl hEs
    by_cases hlt : j < n
    · obtain ⟨d, hd⟩ : ∃ d, (dsort L)[j]? = some d := ⟨(dsort L)[j]'(by have := HNn.out; omega), List.getElem?_eq_getElem _⟩
      obtain ⟨x, hxK, rfl⟩ := HIN.out.1 d ((mem_dsort L d).1 (List.mem_of_getElem? hd))
      obtain ⟨b0, o0, hAe, hbN, k0, k1, k2⟩ := Ds.at_ (HD.out.up HS.out.be) hd
      subst hAe
      have HX := Lib.hid (And.intro hxK (And.intro hd (HIN.out.2 x hxK)))
      clear hd hxK
      have b3 := (Below.refl wr.heap.size wr).alloc (Nat.le_refl _) (.cells #[.int .i64 x.e.dot.1.1, .int .i64 x.e.dot.1.2, .int .i64 x.e.dot.2] 50)
      have HS3 := Lib.hid (HS.out.up b3)
      have HO3 := Lib.hid ((HO1.out.up HS.out.be).up b3)
      have HW3 := Lib.hid (Whole.new wr 50 #[.int .i64 x.e.dot.1.1, .int .i64 x.e.dot.1.2, .int .i64 x.e.dot.2])
      clear b3
      go_wp2_with fail
      clear k0 k1 k2
      generalize wr.heap.size = H at *
      generalize wr.alloc (.cells #[.int .i64 x.e.dot.1.1, .int .i64 x.e.dot.1.2, .int .i64 x.e.dot.2] 50) = W3 at *
      have lk : (Instr.lookup 89 (.map (some kb)) (.agg #[.int .i64 x.e.dot.1.1, .int .i64 x.e.dot.1.2, .int .i64 x.e.dot.2]) false).run Tryz.prog W3.drew = .ok (.agg (evA x.e x.A x.c)) W3.drew := HO3.out.drew.look_at HX.out.1 HX.out.2.2
      have CC := Lib.hid (evclone_any W3.drew x (HO3.out.drew.ov x HX.out.1) (by have := (evB_over (HST.out.ev x HX.out.1).1).1; omega))
      have HC3 := Lib.hid (C3.of HW3.out)
      refine wp_region_held_drew (S := (fun W => W.cell? ⟨m, 0, none⟩ = some (.map (some kb)) ∧ W.cell? ⟨H, 0, none⟩ = some (.int .i64 x.e.dot.1.1) ∧ W.cell? ⟨H, 1, none⟩ = some (.int .i64 x.e.dot.1.2) ∧ W.cell? ⟨H, 2, none⟩ = some (.int .i64 x.e.dot.2))) (by kernel_rfl) ?_ (fun hHeld => ?_)
      · (try dsimp only); exact ⟨HO3.out.drew.cells.1, HC3.out⟩
      refine wpAnyH_take (i := 0) (v := ?_) rfl (by kernel_rfl) (by kernel_rfl) (by kernel_rfl) (fun _ _ _ h => h) (Or.inl ⟨by rfl, ?_⟩) (by assumption) ?_
      rotate_left
      first | (focus ((intro w hSw; (try dsimp only at hSw); go_simp); (try with_reducible rfl); done)) | fail
      try simp only [Act.put, List.getElem_toArray, List.getElem_cons_zero, List.setIfInBounds_toArray, List.set_cons_zero, List.set_cons_succ]
      refine wpAnyH_take (i := 1) (v := ?_) rfl (by kernel_rfl) (by kernel_rfl) (by kernel_rfl) (fun _ _ _ h => h) (Or.inl ⟨by rfl, ?_⟩) (by assumption) ?_
      rotate_left
      first | (focus ((intro w hSw; (try dsimp only at hSw); go_simp); (try with_reducible rfl); done)) | fail
      try simp only [Act.put, List.getElem_toArray, List.getElem_cons_zero, List.getElem_cons_succ, List.setIfInBounds_toArray, List.set_cons_zero, List.set_cons_succ]
      refine wpAnyH_take (i := 2) (v := ?_) rfl (by kernel_rfl) (by kernel_rfl) (by kernel_rfl) (fun _ _ _ h => h) (Or.inl ⟨by rfl, ?_⟩) (by assumption) ?_
      rotate_left
      first | (focus ((intro w hSw; (try dsimp only at hSw); go_simp); (try with_reducible rfl); done)) | fail
      try simp only [Act.put, List.getElem_toArray, List.getElem_cons_zero, List.getElem_cons_succ, List.setIfInBounds_toArray, List.set_cons_zero, List.set_cons_succ]
      refine wpAnyH_take (i := 3) (v := ?_) rfl (by kernel_rfl) (by kernel_rfl) (by kernel_rfl) (fun _ _ _ h => h) (Or.inl ⟨by rfl, ?_⟩) (by assumption) ?_
      rotate_left
      first | (focus ((intro w hSw; (try dsimp only at hSw); go_simp); (try with_reducible rfl); done)) | fail
      try simp only [Act.put, List.getElem_toArray, List.getElem_cons_zero, List.getElem_cons_succ, List.setIfInBounds_toArray, List.set_cons_zero, List.set_cons_succ]
      refine wpAnyH_take (i := 4) (v := ?_) rfl (by kernel_rfl) (by kernel_rfl) (by kernel_rfl) (fun _ _ _ h => h) (Or.inl ⟨by rfl, ?_⟩) (by assumption) ?_
      rotate_left
      first | (focus ((intro w hSw; (try dsimp only at hSw); go_simp); (try with_reducible rfl); done)) | fail
      try simp only [Act.put, List.getElem_toArray, List.getElem_cons_zero, List.getElem_cons_succ, List.setIfInBounds_toArray, List.set_cons_zero, List.set_cons_succ]
      refine wpAnyH_take (i := 5) (v := ?_) rfl (by kernel_rfl) (by kernel_rfl) (by kernel_rfl) (fun _ _ _ h => h) (Or.inl ⟨by rfl, ?_⟩) (by assumption) ?_
      rotate_left
      first | (focus ((intro w hSw; (try dsimp only at hSw); go_simp); (try with_reducible rfl); done)) | fail
      try simp only [Act.put, List.getElem_toArray, List.getElem_cons_zero, List.getElem_cons_succ, List.setIfInBounds_toArray, List.set_cons_zero, List.set_cons_succ]
      refine wpAnyH_ready (rs := [6]) (by kernel_rfl) (by simp) ?_
      refine AllReadyH.cons rfl (fun K hK => ?_) AllReadyH.nil
      go_simp
      refine hK.out _ _ ?_ (fun hHeld => ?_)
      · (try dsimp only); exact ⟨HO3.out.drew.cells.1, HC3.out⟩
      clear hK K
      try simp only [Act.put, List.getElem_toArray, List.getElem_cons_zero, List.getElem_cons_succ, List.setIfInBounds_toArray, List.set_cons_zero, List.set_cons_succ]
      refine wpAnyH_ready (rs := [7]) (by kernel_rfl) (by simp) ?_
      refine AllReadyH.cons rfl (fun K hK => ?_) AllReadyH.nil
      go_simp
      refine CC.out.mono ?_; rintro r w5 ⟨A5, c5, rfl, ho5, b5⟩
      go_wp2_with fail
      refine hK.out _ _ ?_ (fun hHeld => ?_)
      · (try dsimp only); exact ⟨(HO3.out.drew.up b5).cells.1, C3.up (W := W3.drew) HC3.out HW3.out.lt b5⟩
      clear hK K
      try simp only [Act.put, List.getElem_toArray, List.getElem_cons_zero, List.getElem_cons_succ, List.setIfInBounds_toArray, List.set_cons_zero, List.set_cons_succ]
      have HS5 := Lib.hid (HS3.out.drew.up b5)
      have HO5 := Lib.hid (HO3.out.drew.up b5)
      have HW5 := Lib.hid (HW3.out.drew.below b5 HW3.out.lt)
      have hoy := ho5.base_le (show w1.heap.size ≤ _ from HS3.out.le)
      clear CC ho5 b5 lk HC3
      have b6 := (Below.refl w5.heap.size w5).alloc (Nat.le_refl _) (.cells (evA x.e A5 c5) 59)
      refine wpAnyH_ready (rs := [8]) (by kernel_rfl) (by simp) ?_
      refine AllReadyH.cons rfl (fun K hK => ?_) AllReadyH.nil
      refine step_bslice (by rfl) (.tmp 22) (by rfl) _ (by rfl) _ _ (bs_ev _ _ _ _) ?_
      refine hK.out _ _ ?_ (fun hHeld => ?_)
      · (try dsimp only); exact ⟨(HO5.out.up b6).cells.1, (C3.of HW5.out).up HW5.out.lt b6⟩
      clear hK K
      try simp only [Act.put, List.getElem_toArray, List.getElem_cons_zero, List.getElem_cons_succ, List.setIfInBounds_toArray, List.set_cons_zero, List.set_cons_succ]
      have h6 := app1e w5 w1.heap.size A2 Es.length c2 (Es.flatMap elC) HS5.out.ow ⟨x.e, A5, c5⟩ (by have := HLn.out; have := HNn.out; have := HE.out.1; omega) HS5.out.le
      obtain ⟨A6, c6, w6, q6, o6, gr6, _, nr6⟩ := h6
      have hoy6 := hoy
      have HS6 := Lib.hid (HS5.out.app (y := ⟨x.e, A5, c5⟩) hoy o6 gr6)
      have hne : ∀ k, some k = bl A2 → w1.heap.size ≤ k := fun k hk => HS5.out.ow.bl_lo k hk.symm
      have HO6 := Lib.hid (HO1.out.up HS6.out.be)
      have HW6 := Lib.hid (HW5.out.ch gr6 (fun e => HS5.out.ow.ne_ HW5.out (by decide) (by rw [ownBlock_bl]; exact e.symm)))
      rw [HE.out.1] at q6
      refine wpAnyH_ready (rs := [9]) (by kernel_rfl) (by simp) ?_
      refine AllReadyH.cons rfl (fun K hK => ?_) AllReadyH.nil
      refine step_append_run (by rfl) (.tmp 15) (.tmp 23) _ _ (by rfl) _ _ (by rfl) (by rfl) _ _ q6 ?_
      refine hK.out _ _ ?_ (fun hHeld => ?_)
      · (try dsimp only); exact ⟨HO6.out.cells.1, C3.of HW6.out⟩
      clear hK K
      try simp only [Act.put, List.getElem_toArray, List.getElem_cons_zero, List.getElem_cons_succ, List.setIfInBounds_toArray, List.set_cons_zero, List.set_cons_succ]
      refine wpAnyH_take (i := 10) (v := ?_) rfl (by kernel_rfl) (by kernel_rfl) (by kernel_rfl) (fun _ _ _ h => h) (Or.inl ⟨by rfl, ?_⟩) (by assumption) ?_
      rotate_left
      first | (focus ((intro w hSw; (try dsimp only at hSw); go_simp); (try with_reducible rfl); done)) | fail
      try simp only [Act.put, List.getElem_toArray, List.getElem_cons_zero, List.getElem_cons_succ, List.setIfInBounds_toArray, List.set_cons_zero, List.set_cons_succ]
      refine wpAnyH_done (by kernel_rfl) ?_ _
      go_wp2_with fail
      go_roundw
      case rel => exact ⟨j + 1, A6, c6, Es ++ [⟨x.e, A5, c5⟩], by omega, by go_num, rfl, by simp [HE.out.1], by
        rw [List.take_add_one, HX.out.2.1, List.map_append, ← HE.out.2]
        simp [eds, kEd_mem HST.out.nd HX.out.1], HS6.out⟩
      case measure => simp only [intOf]; omega
    · have hj' : j = n := by omega
      subst hj'
      have HEE := Lib.hid (show eds Es = (dsort L).map (kEd K) by rw [HE.out.2, List.take_of_length_le (by rw [HNn.out]; exact Nat.le_refl _)])
      have HR := Lib.hid (show SortedE w K L (.returned (.slice A2 j c2)) wr from ⟨A2, c2, Es, by rw [HE.out.1], HS.out.eso, HEE.out, HB1.out.trans (below_of_le HS.out.be HB1.out.size)⟩)
      go_wp2
      go_ret
      exact HR.out
end Go.Proofs.YtpakmeegldgjmaaGreat
/- Layer 21 (ormap): Events. -/
namespace Go.Proofs.YtpakmeegldgjmaaGreat
open Go.RowKit Go.Maps
set_option linter.unusedVariables false
set_option linter.unusedSimpArgs false
set_option maxRecDepth 100000

theorem ranges_ch {H : Type} {P : Program} {k : TypeId} {R : Value → Option (DataW H × List MemPlace)} {w w' : World} {b r n : Nat} {D : DataW H} {left : Lit → Bool} {cnt : Nat} {S : Nat → Prop}
    (h : w.ranges P k R b r n D left cnt) (hc : Ch S w w') (hb : ¬ S b) (hr : ¬ S r) : w'.ranges P k R b r n D left cnt := by
  have h1 := h.owns.lt
  have h2 := h.lt
  obtain ⟨es, clock, since, seen, c0, hb', F, hs, hD, hr', rest⟩ := h
  exact ⟨es, clock, since, seen, c0, (hc.block b h1 hb).trans hb', F, hs, hD, (hc.block r h2 hr).trans hr', rest⟩
/-- 'append' in a plain region, its run known. -/
theorem wpl_append_runs {P : Program} {ops : Array Oper} {rest : List Oper} {o : Oper} {a : Act} {w : World} {Q : Exit → Act → World → Prop} (hg : Region.wanted o (yielded ops a.tmps) = true) (s x : Operand) (t tn : TypeId)
    (ho : o.op = .call { callee := .builtin .append, args := #[s, x], argTypes := #[t, tn] }) (vs vx : Value) (hs : a.eval s = vs) (hx : a.eval x = vx)
    (v' : Value) (w' : World) (hr : (Builtin.append_ #[t, tn] o.type #[vs, vx]).run P w = .ok v' w') (h : wpList P ops Q rest (a.put o.dst v') w') : wpList P ops Q (o :: rest) a w :=
  wpList_want hg fun K hK => wp_append_runs w s x t tn ho vs vx hs hx v' w' hr (hK _ _ h)
theorem dsort_congr {a b : List Dt} (h : ∀ x, x ∈ a ↔ x ∈ b) : dsort a = dsort b := dsort_ext (srt_dsort b) (fun x => (h x).trans (mem_dsort b x).symm)
/-- What is told while dots are gathered from a map. -/
structure GaS (w : World) (N0 : Nat) (W : World) (A : Option Addr) (c : Nat) (L : List Dt) : Prop where
  ow : Own W N0 50 3 A L.length c (dts L)
  be : Below w.heap.size w W
  le : N0 ≤ W.heap.size
theorem GaS.up {w W W' : World} {N0 c : Nat} {A : Option Addr} {L : List Dt} (h : GaS w N0 W A c L) (b : Below W.heap.size W W') : GaS w N0 W' A c L :=
  ⟨h.ow.below b (Nat.le_refl _), h.be.trans (below_of_le b h.be.size), Nat.le_trans h.le b.size⟩
set_option maxHeartbeats 4000000 in
theorem ormevents_any (w : World) (N m kb ab db sv sb : Nat) (K : List El) (AL : List (Ky × Nat × List Dt)) (D M : List Dt) (h : Om w N m kb ab db sv sb K AL D M) (hs : OmSt K AL D M) (hK : K.length ≤ 1000) :
    Calls Tryz.prog 16 #[.pointer (some ⟨m, 0, none⟩)] w (SortedE w K (K.map fun x => x.e.dot)) := by
  have HO := Lib.hid h
  have HST := Lib.hid hs
  have hsz : Maps.size (DataW.map (((keptV K).map (pV Tryz.prog 50 dtV)).foldr DataW.insert [])) = K.length := by
    show List.length _ = _
    rw [length_sorted, List.length_map]; simp [keptV]
  have hCs := ComeV.start dot_key h.kept
  have hstep := fun left ss hC x hx y hlk hat => ComeV.step dot_key h.kept (left := left) (ss := ss) hC (x := x) hx (y := y) hlk hat
  have hperm := fun left ss hC hl => ComeV.perm h.kept (left := left) (ss := ss) hC hl
  have hown1 := h.kept.1
  have hkl : (keptV K).length = K.length := by simp [keptV]
  have hcell := h.cells.1
  rw [hkl] at hown1
  clear h hs
  generalize hD0 : (DataW.map (((keptV K).map (pV Tryz.prog 50 dtV)).foldr DataW.insert []) : DataW Value) = D0 at *
  go_enter Tryz.func16, Tryz.ntmps16
  go_wp2_with (first
    | (at_range; refine wpList_range_own _ rfl _ 89 rfl 50 59 dot_key.law Tryz.underlying89 _ kb K.length _ rfl hown1 ?_; intro w0 hrg0 hg0 hs0)
    | go_in)
  have HS := Lib.hid hstep
  have HP := Lib.hid hperm
  have HB0 := Lib.hid (show Below w.heap.size w w0 from (Below.refl _ _).grown hg0 (Nat.le_refl _) (fun k hk => by cases hk))
  have hsz0 : w0.heap.size = w.heap.size + 1 := hs0
  clear hstep hperm hD0
  go_frame
  go_loopw [3] (fun s wr => ∃ (left : Lit → Bool) (cnt : Nat) (ss : List Dt) (A2 : Option Addr) (c2 : Nat), s = .slice A2 ss.length c2 ∧ wr.ranges Tryz.prog 50 rdV kb w.heap.size K.length D0 left cnt ∧ ss.length + cnt ≤ K.length ∧ ComeV Tryz.prog 50 dtV dtOk (keptV K) left ss ∧ GaS w (w.heap.size + 1) wr A2 c2 ss)
    (fun _ wr => wr.rangeLeft kb w.heap.size)
  case atStart =>
    exact ⟨_, _, [], none, 0, rfl, hrg0, by simp [hsz], hCs, ⟨Own.nil_, HB0.out, by omega⟩⟩
  case round =>
    obtain ⟨left, cnt, ss, A2, c2, rfl, hrg, hcs, hC, hG⟩ := hrel
    go_wp2_with (first
      | (at_next; refine wpList_next_ranges _ rfl _ rfl 50 dot_key.law rdV dtV id (fun key kl hk => by obtain ⟨x, _, hx⟩ := dot_key.inv _ _ hk; exact ⟨x, hx⟩) (fun v _ _ => ⟨v, rfl⟩) kb w.heap.size K.length _ _ _ rfl hrg ?_ ?_)
      | go_in)
    · intro hc0 hl0
      have hp := HP.out _ _ hC hl0
      have hmem : ∀ d, d ∈ ss ↔ d ∈ K.map fun x => x.e.dot := fun d => by rw [hp.mem_iff]; simp [keptV]
      have hlen : ss.length = K.length := by rw [hp.length_eq]; simp [keptV]
      have CS := Lib.hid (ormsorted_any wr N m kb ab db sv sb K AL D M (HO.out.up hG.be) HST.out A2 c2 ss (MsAt.own hG.ow) (fun d hd => by obtain ⟨x, hx, e⟩ := List.mem_map.1 ((hmem d).1 hd); exact ⟨x, hx, e⟩) (by omega))
      have HF := Lib.hid (And.intro (dsort_congr hmem) hG.be)
      clear hp hmem hlen hC hG
      generalize ss.length = ll at *
      go_wp2_with fail
      refine CS.out.mono ?_; rintro r w9 ⟨A9, c9, Es9, rfl, h1, h2, h3⟩
      have HR := Lib.hid (show SortedE w K (K.map fun x => x.e.dot) (.returned (.slice A9 Es9.length c9)) w9 from ⟨A9, c9, Es9, rfl, h1, by rw [h2, HF.out.1], HF.out.2.trans (below_of_le h3 HF.out.2.size)⟩)
      clear h1 h2 h3
      go_wp2
      go_ret
      exact HR.out
    · intro d i s c kl yd yp w2 cnt2 hkey hlk hv hat hrg2 hlt hg2 hs2 hen
      obtain ⟨x', okx, ex⟩ := dot_key.inv _ _ hkey
      obtain rfl : ((d, i), s) = x' := dot_key.inj _ _ ex
      have hkl := dot_key.klit okx
      rw [hkey] at hkl
      obtain rfl := Option.some.inj hkl
      clear ex hkl
      have hC2 := HS.out _ _ hC _ okx _ hlk hat
      unfold dtV at hen
      have hcg := grown_ch hg2
      have hG2 : GaS w (w.heap.size + 1) w2 A2 c2 ss := ⟨hG.ow.ch hcg (fun k hk _ _ e => by have e : some k = some w.heap.size := e; cases e; omega), hG.be.trans (hcg.below (fun k hk e => by have e : some k = some w.heap.size := e; cases e; omega) hG.be.size), Nat.le_trans hG.le hcg.size⟩
      have hG3 := Lib.hid (hG2.up ((Below.refl w2.heap.size w2).alloc (Nat.le_refl _) (.cells #[.int .i64 d, .int .i64 i, .int .i64 s] 50)))
      have hrg3 := hrg2.alloc (.cells #[.int .i64 d, .int .i64 i, .int .i64 s] 50)
      obtain ⟨A6, c6, w6, q6, o6, gr6, _, _⟩ := app1n (w2.alloc (.cells #[.int .i64 d, .int .i64 i, .int .i64 s] 50)) (w.heap.size + 1) A2 ss.length c2 ss rfl hG3.out.ow ((d, i), s) (by have := hK; omega) hG3.out.le
      have hrg6 := ranges_ch hrg3 gr6 (fun e => by have := hG3.out.ow.bl_lo _ e.symm; have := HO.out.kept.lt; omega) (fun e => by have := hG3.out.ow.bl_lo _ e.symm; omega)
      have hG6 : GaS w (w.heap.size + 1) w6 A6 c6 (ss ++ [((d, i), s)]) := ⟨by rw [List.length_append]; exact o6, hG3.out.be.trans (gr6.below (fun k hk e => by have := hG3.out.ow.bl_lo _ e.symm; omega) hG3.out.be.size), Nat.le_trans hG3.out.le gr6.size⟩
      have HG6 := Lib.hid (And.intro hG6 (And.intro hrg6 hC2))
      clear hG6 hrg6 hC2 hG2 hrg3 hG3 hG o6 gr6 hC hcg
      simp only at q6
      rw [show (w2.alloc (.cells #[.int .i64 d, .int .i64 i, .int .i64 s] 50)).heap.size = wr.heap.size + 1 by simp [hs2]] at q6
      go_wp2_with (first | (at_builtin; refine wpl_append_runs (by rfl) _ _ _ _ rfl _ _ rfl rfl _ _ q6 ?_) | go_in)
      go_roundw
      case rel => exact ⟨_, cnt2, ss ++ [((d, i), s)], A6, c6, by simp, HG6.out.2.1, by simp; omega, HG6.out.2.2, HG6.out.1⟩
      case measure => rw [HG6.out.2.1.left_eq, hrg.left_eq]; exact hlt
end Go.Proofs.YtpakmeegldgjmaaGreat
/- Layer 21 (ormap): Key. -/
namespace Go.Proofs.YtpakmeegldgjmaaGreat
open Go.RowKit Go.Maps
set_option linter.unusedVariables false
set_option linter.unusedSimpArgs false
set_option maxRecDepth 100000

set_option maxHeartbeats 4000000 in
theorem ormkey_any (w : World) (N m kb ab db sv sb : Nat) (K : List El) (AL : List (Ky × Nat × List Dt)) (D M : List Dt) (h : Om w N m kb ab db sv sb K AL D M) (hs : OmSt K AL D M) (p : Ky × Nat × List Dt) (hp : p ∈ AL) (hK : p.2.2.length ≤ 1000) :
    Calls Tryz.prog 96 #[.pointer (some ⟨m, 0, none⟩), kyV p.1] w (SortedE w K p.2.2) := by
  have B0 := (Below.refl w.heap.size w).alloc (Nat.le_refl _) (.cells #[.string (bs p.1.1), .string (bs p.1.2.1), .string (bs p.1.2.2)] 54)
  have HO := Lib.hid (h.up B0)
  have HST := Lib.hid hs
  have HOw := Lib.hid h
  have HB := Lib.hid B0
  have HW := Lib.hid (Whole.new w 54 #[.string (bs p.1.1), .string (bs p.1.2.1), .string (bs p.1.2.2)])
  have hi := (h.up B0).inner p hp
  have hsz : Maps.size (DataW.map (((ones p.2.2).map (pE Tryz.prog 50 dtV)).foldr DataW.insert [])) = p.2.2.length := by
    show List.length _ = _
    rw [length_sorted, List.length_map, ones_len]
  have hCs := Come.start dot_key hi
  have hstep := fun left ss hC x hx y hlk hat => Come.step dot_key hi (left := left) (ss := ss) hC (x := x) hx (y := y) hlk hat
  have hperm := fun left ss hC hl => Come.perm hi (left := left) (ss := ss) hC hl
  have hown1 := hi.1
  rw [ones_len] at hown1
  have lk := (h.up B0).drew.look_yes hp
  have HIN := Lib.hid (show ∀ d ∈ p.2.2, ∃ x ∈ K, x.e.dot = d from fun d hd => by obtain ⟨x, hx, _, e, _⟩ := (hs.al p.1 d).1 ⟨p, hp, rfl, hd⟩; exact ⟨x, hx, e⟩)
  clear h hs hi B0
  generalize hD0 : (DataW.map (((ones p.2.2).map (pE Tryz.prog 50 dtV)).foldr DataW.insert []) : DataW Unit) = D0 at *
  unfold kyV at lk ⊢
  go_enter Tryz.func96, Tryz.ntmps96
  go_wp2_with fail
  generalize hE : w.heap.size = E at *
  have HEE := Lib.hid hE
  clear hE
  generalize (w.alloc (.cells #[.string (bs p.1.1), .string (bs p.1.2.1), .string (bs p.1.2.2)] 54)) = W at *
  obtain ⟨w0, hrun0, hrg0, hg0, hs0⟩ := (show W.drew.ownsMap Tryz.prog 50 (plainElem Tryz.prog 3) p.2.1 p.2.2.length D0 from hown1).range dot_key.law (t := 91) Tryz.underlying91
  have hb0 : Below W.drew.heap.size W.drew w0 := (Below.refl _ _).grown hg0 (Nat.le_refl _) (fun k hk => by cases hk)
  have hER : E < W.drew.heap.size := HW.out.lt
  have hpR : p.2.1 < W.drew.heap.size := (HO.out.inner p hp).lt
  have HO0 := Lib.hid (HO.out.drew.up hb0)
  have HW0 := Lib.hid (HW.out.drew.below hb0 hER)
  have HB0 := Lib.hid (show Below w.heap.size w w0 by rw [HEE.out]; exact HB.out.drew.trans (below_of_le hb0 (by omega)))
  have hwR : w.heap.size ≤ W.drew.heap.size := by rw [HEE.out]; omega
  clear hb0
  generalize hR : W.drew.heap.size = R at *
  refine wp_region_held_drew (S := (fun W => W.cell? ⟨m, 1, none⟩ = some (.map (some ab)) ∧ W.cell? ⟨E, 0, none⟩ = some (.string (bs p.1.1)) ∧ W.cell? ⟨E, 1, none⟩ = some (.string (bs p.1.2.1)) ∧ W.cell? ⟨E, 2, none⟩ = some (.string (bs p.1.2.2)))) (by kernel_rfl) ?_ (fun hHeld => ?_)
  · (try dsimp only); exact ⟨HO.out.drew.cells.2.1, by rw [HW.out.drew.cell]; rfl, by rw [HW.out.drew.cell]; rfl, by rw [HW.out.drew.cell]; rfl⟩
  refine wpAnyH_take (i := 0) (v := ?_) rfl (by kernel_rfl) (by kernel_rfl) (by kernel_rfl) (fun _ _ _ h => h) (Or.inl ⟨by rfl, ?_⟩) (by assumption) ?_
  rotate_left
  first | (focus ((intro w hSw; (try dsimp only at hSw); go_simp); (try with_reducible rfl); done)) | fail
  try simp only [Act.put, List.getElem_toArray, List.getElem_cons_zero, List.setIfInBounds_toArray, List.set_cons_zero, List.set_cons_succ]
  refine wpAnyH_take (i := 1) (v := ?_) rfl (by kernel_rfl) (by kernel_rfl) (by kernel_rfl) (fun _ _ _ h => h) (Or.inl ⟨by rfl, ?_⟩) (by assumption) ?_
  rotate_left
  first | (focus ((intro w hSw; (try dsimp only at hSw); go_simp); (try with_reducible rfl); done)) | fail
  try simp only [Act.put, List.getElem_toArray, List.getElem_cons_zero, List.getElem_cons_succ, List.setIfInBounds_toArray, List.set_cons_zero, List.set_cons_succ]
  refine wpAnyH_take (i := 2) (v := ?_) rfl (by kernel_rfl) (by kernel_rfl) (by kernel_rfl) (fun _ _ _ h => h) (Or.inl ⟨by rfl, ?_⟩) (by assumption) ?_
  rotate_left
  first | (focus ((intro w hSw; (try dsimp only at hSw); go_simp); (try with_reducible rfl); done)) | fail
  try simp only [Act.put, List.getElem_toArray, List.getElem_cons_zero, List.getElem_cons_succ, List.setIfInBounds_toArray, List.set_cons_zero, List.set_cons_succ]
  refine wpAnyH_take (i := 3) (v := ?_) rfl (by kernel_rfl) (by kernel_rfl) (by kernel_rfl) (fun _ _ _ h => h) (Or.inl ⟨by rfl, ?_⟩) (by assumption) ?_
  rotate_left
  first | (focus ((intro w hSw; (try dsimp only at hSw); go_simp); (try with_reducible rfl); done)) | fail
  try simp only [Act.put, List.getElem_toArray, List.getElem_cons_zero, List.getElem_cons_succ, List.setIfInBounds_toArray, List.set_cons_zero, List.set_cons_succ]
  refine wpAnyH_take (i := 4) (v := ?_) rfl (by kernel_rfl) (by kernel_rfl) (by kernel_rfl) (fun _ _ _ h => h) (Or.inl ⟨by rfl, ?_⟩) (by assumption) ?_
  rotate_left
  first | (focus ((intro w hSw; (try dsimp only at hSw); go_simp); (try with_reducible rfl); done)) | fail
  try simp only [Act.put, List.getElem_toArray, List.getElem_cons_zero, List.getElem_cons_succ, List.setIfInBounds_toArray, List.set_cons_zero, List.set_cons_succ]
  refine wpAnyH_ready (rs := [5]) (by kernel_rfl) (by simp) ?_
  refine AllReadyH.cons rfl (fun K hK => ?_) AllReadyH.nil
  go_simp
  refine hK.out _ _ ?_ (fun hHeld => ?_)
  · (try dsimp only); exact ⟨HO.out.drew.cells.2.1, by rw [HW.out.drew.cell]; rfl, by rw [HW.out.drew.cell]; rfl, by rw [HW.out.drew.cell]; rfl⟩
  clear hK K
  try simp only [Act.put, List.getElem_toArray, List.getElem_cons_zero, List.getElem_cons_succ, List.setIfInBounds_toArray, List.set_cons_zero, List.set_cons_succ]
  refine wpAnyH_ready (rs := [6]) (by kernel_rfl) (by simp) ?_
  refine AllReadyH.cons rfl (fun K hK => ?_) AllReadyH.nil
  go_simp
  refine hK.out _ _ ?_ (fun hHeld => ?_)
  · (try dsimp only); exact ⟨HO0.out.cells.2.1, by rw [HW0.out.cell]; rfl, by rw [HW0.out.cell]; rfl, by rw [HW0.out.cell]; rfl⟩
  clear hK K
  try simp only [Act.put, List.getElem_toArray, List.getElem_cons_zero, List.getElem_cons_succ, List.setIfInBounds_toArray, List.set_cons_zero, List.set_cons_succ]
  refine wpAnyH_done (by kernel_rfl) ?_ _
  clear lk hrun0
  have HS := Lib.hid hstep
  have HP := Lib.hid hperm
  clear hstep hperm hD0
  go_wp2_with fail
  go_loopw [5] (fun s wr => ∃ (left : Lit → Bool) (cnt : Nat) (ss : List Dt) (A2 : Option Addr) (c2 : Nat), s = .slice A2 ss.length c2 ∧ wr.ranges Tryz.prog 50 (plainElem Tryz.prog 3) p.2.1 R p.2.2.length D0 left cnt ∧ ss.length + cnt ≤ p.2.2.length ∧ Come Tryz.prog 50 dtV dtOk (ones p.2.2) left ss ∧ GaS w (R + 1) wr A2 c2 ss)
    (fun _ wr => wr.rangeLeft p.2.1 R)
  case atStart =>
    exact ⟨_, _, [], none, 0, rfl, hrg0, by simp [hsz], hCs, ⟨Own.nil_, HB0.out, by omega⟩⟩
  case round =>
    obtain ⟨left, cnt, ss, A2, c2, rfl, hrg, hcs, hC, hG⟩ := hrel
    go_wp2_with (first
      | (at_next; refine wpList_next_ranges _ rfl _ rfl 50 dot_key.law (plainElem Tryz.prog 3) dtV id (fun key kl hk => by obtain ⟨x, _, hx⟩ := dot_key.inv _ _ hk; exact ⟨x, hx⟩) (fun v _ _ => ⟨v, rfl⟩) p.2.1 R p.2.2.length _ _ _ rfl hrg ?_ ?_)
      | go_in)
    · intro hc0 hl0
      have hpm := HP.out _ _ hC hl0
      have hmem : ∀ d, d ∈ ss ↔ d ∈ p.2.2 := fun d => by rw [hpm.mem_iff]; simp [ones]
      have hlen : ss.length = p.2.2.length := by rw [hpm.length_eq]; simp [ones]
      have CS := Lib.hid (ormsorted_any wr N m kb ab db sv sb K AL D M (HOw.out.up hG.be) HST.out A2 c2 ss (MsAt.own hG.ow) (fun d hd => HIN.out d ((hmem d).1 hd)) (by omega))
      have HF := Lib.hid (And.intro (dsort_congr hmem) hG.be)
      clear hpm hmem hlen hC hG
      generalize ss.length = ll at *
      go_wp2_with fail
      refine CS.out.mono ?_; rintro r w9 ⟨A9, c9, Es9, rfl, h1, h2, h3⟩
      have HR := Lib.hid (show SortedE w K p.2.2 (.returned (.slice A9 Es9.length c9)) w9 from ⟨A9, c9, Es9, rfl, h1, by rw [h2, HF.out.1], HF.out.2.trans (below_of_le h3 HF.out.2.size)⟩)
      clear h1 h2 h3
      go_wp2
      go_ret
      exact HR.out
    · intro d i s c kl yd yp w2 cnt2 hkey hlk hv hat hrg2 hlt hg2 hs2 hen
      obtain ⟨x', okx, ex⟩ := dot_key.inv _ _ hkey
      obtain rfl : ((d, i), s) = x' := dot_key.inj _ _ ex
      have hkl := dot_key.klit okx
      rw [hkey] at hkl
      obtain rfl := Option.some.inj hkl
      clear ex hkl
      have hC2 := HS.out _ _ hC _ okx _ hlk hat
      unfold dtV at hen
      have hcg := grown_ch hg2
      have hG2 : GaS w (R + 1) w2 A2 c2 ss := ⟨hG.ow.ch hcg (fun k hk _ _ e => by have e : some k = some R := e; cases e; omega), hG.be.trans (hcg.below (fun k hk e => by have e : some k = some R := e; cases e; omega) hG.be.size), Nat.le_trans hG.le hcg.size⟩
      have hG3 := Lib.hid (hG2.up ((Below.refl w2.heap.size w2).alloc (Nat.le_refl _) (.cells #[.int .i64 d, .int .i64 i, .int .i64 s] 50)))
      have hrg3 := hrg2.alloc (.cells #[.int .i64 d, .int .i64 i, .int .i64 s] 50)
      obtain ⟨A6, c6, w6, q6, o6, gr6, _, _⟩ := app1n (w2.alloc (.cells #[.int .i64 d, .int .i64 i, .int .i64 s] 50)) (R + 1) A2 ss.length c2 ss rfl hG3.out.ow ((d, i), s) (by have := hK; omega) hG3.out.le
      have hrg6 := ranges_ch hrg3 gr6 (fun e => by have := hG3.out.ow.bl_lo _ e.symm; omega) (fun e => by have := hG3.out.ow.bl_lo _ e.symm; omega)
      have hG6 : GaS w (R + 1) w6 A6 c6 (ss ++ [((d, i), s)]) := ⟨by rw [List.length_append]; exact o6, hG3.out.be.trans (gr6.below (fun k hk e => by have := hG3.out.ow.bl_lo _ e.symm; omega) hG3.out.be.size), Nat.le_trans hG3.out.le gr6.size⟩
      have HG6 := Lib.hid (And.intro hG6 (And.intro hrg6 hC2))
      clear hG6 hrg6 hC2 hG2 hrg3 hG3 hG o6 gr6 hC hcg
      simp only at q6
      rw [show (w2.alloc (.cells #[.int .i64 d, .int .i64 i, .int .i64 s] 50)).heap.size = wr.heap.size + 1 by simp [hs2]] at q6
      go_wp2_with (first | (at_builtin; refine wpl_append_runs (by rfl) _ _ _ _ rfl _ _ rfl rfl _ _ q6 ?_) | go_in)
      go_roundw
      case rel => exact ⟨_, cnt2, ss ++ [((d, i), s)], A6, c6, by simp, HG6.out.2.1, by simp; omega, HG6.out.2.2, HG6.out.1⟩
      case measure => rw [HG6.out.2.1.left_eq, hrg.left_eq]; exact hlt
end Go.Proofs.YtpakmeegldgjmaaGreat
/- Layer 21 (ormap): Alive. -/
namespace Go.Proofs.YtpakmeegldgjmaaGreat
open Go.RowKit Go.Maps
set_option linter.unusedVariables false
set_option linter.unusedSimpArgs false
set_option maxRecDepth 100000

theorem Own.notIter {w : World} {base size n c k : Nat} {e : TypeId} {A : Option Addr} {xs : List Value} (h : Own w base e size A n c xs) (hk : bl A = some k) {m : Option Nat} {since : Nat} {seen : Array Nat} {c0 : Nat} (hr : w.heap[k]? = some (.mapIter m since seen c0)) : False := by
  rcases h.1.2 with ⟨hv, _⟩ | ⟨g, o, cur, hv, _, hb, _⟩
  · cases hv; cases hk
  · cases hv
    simp [bl] at hk
    subst hk
    rw [hb] at hr
    cases hr
theorem ranges_own {H : Type} {P : Program} {k : TypeId} {R : Value → Option (DataW H × List MemPlace)} {w : World} {b r n : Nat} {D : DataW H} {left : Lit → Bool} {cnt : Nat} (h : w.ranges P k R b r n D left cnt) {base size n' c : Nat} {e : TypeId} {A : Option Addr} {xs : List Value} (ho : Own w base e size A n' c xs) : some r ≠ bl A := by
  obtain ⟨es, clock, since, seen, c0, _, _, _, _, hr, _⟩ := h
  exact fun e => ho.notIter e.symm hr
theorem al_one {AL : List (Ky × Nat × List Dt)} (h : ((aliveV AL).map (·.1)).Nodup) {p q : Ky × Nat × List Dt} (hp : p ∈ AL) (hq : q ∈ AL) (e : p.1 = q.1) : p = q := by
  induction AL with
  | nil => cases hp
  | cons z r ih =>
    simp only [aliveV, List.map_cons, List.map_map, List.nodup_cons] at h
    have hn : ∀ u ∈ r, u.1 ≠ z.1 := fun u hu e => h.1 (List.mem_map.2 ⟨u, hu, e⟩)
    rcases List.mem_cons.1 hp with rfl | hp1
    · rcases List.mem_cons.1 hq with rfl | hq1
      · rfl
      · exact absurd e.symm (hn _ hq1)
    · rcases List.mem_cons.1 hq with rfl | hq1
      · exact absurd e (hn _ hp1)
      · exact ih (by simp only [aliveV, List.map_map]; exact h.2) hp1 hq1
/-- The dots of all sets. -/
def alDots (AL : List (Ky × Nat × List Dt)) : List Dt := AL.flatMap fun p => p.2.2
set_option maxHeartbeats 8000000 in
theorem ormalive_any (w : World) (N m kb ab db sv sb : Nat) (K : List El) (AL : List (Ky × Nat × List Dt)) (D M : List Dt) (h : Om w N m kb ab db sv sb K AL D M) (hs : OmSt K AL D M) (hK : K.length ≤ 1000) :
    Calls Tryz.prog 17 #[.pointer (some ⟨m, 0, none⟩)] w (SortedE w K (alDots AL)) := by
  have HO := Lib.hid h
  have HST := Lib.hid hs
  have hsz : Maps.size (DataW.map (((aliveV AL).map (pV Tryz.prog 54 kyV)).foldr DataW.insert [])) = AL.length := by
    show List.length _ = _
    rw [length_sorted, List.length_map]; simp [aliveV]
  have hCs := ComeV.start key_key h.alive
  have hstep := fun left ss hC x hx y hlk hat => ComeV.step key_key h.alive (left := left) (ss := ss) hC (x := x) hx (y := y) hlk hat
  have hperm := fun left ss hC hl => ComeV.perm h.alive (left := left) (ss := ss) hC hl
  have hat0 := fun x hx => h.alive.at_ key_key (.map none) (a := x) hx
  have hhas0 := fun x hx => h.alive.has_ key_key (a := x) hx
  have hown1 := h.alive.1
  have hkl : (aliveV AL).length = AL.length := by simp [aliveV]
  have hcell := h.cells.2.1
  rw [hkl] at hown1
  have hle : AL.length ≤ 1000 ∧ ∀ p ∈ AL, p.2.2.length ≤ 1000 := ⟨Nat.le_trans hs.le.1 hK, fun p hp => Nat.le_trans (hs.le.2 p hp) hK⟩
  clear h hs
  generalize hD0 : (DataW.map (((aliveV AL).map (pV Tryz.prog 54 kyV)).foldr DataW.insert []) : DataW Value) = D0 at *
  go_enter Tryz.func17, Tryz.ntmps17
  go_wp2_with (first
    | (at_range; refine wpList_range_own _ rfl _ 90 rfl 54 91 key_key.law Tryz.underlying90 _ ab AL.length _ rfl hown1 ?_; intro w0 hrg0 hg0 hs0)
    | go_in)
  have HS := Lib.hid hstep
  have HP := Lib.hid hperm
  have HAT := Lib.hid (And.intro hat0 hhas0)
  have HB0 := Lib.hid (show Below w.heap.size w w0 from (Below.refl _ _).grown hg0 (Nat.le_refl _) (fun k hk => by cases hk))
  have hsz0 : w0.heap.size = w.heap.size + 1 := hs0
  have hab := HO.out.alive.lt
  clear hstep hperm hD0 hat0 hhas0
  go_frame
  go_loopw [3] (fun s wr => ∃ (left : Lit → Bool) (cnt : Nat) (kss : List Ky) (A2 : Option Addr) (c2 : Nat) (ds : List Dt), s = .slice A2 ds.length c2 ∧ wr.ranges Tryz.prog 54 rdV ab w.heap.size AL.length D0 left cnt ∧ kss.length + cnt ≤ AL.length ∧ ComeV Tryz.prog 54 kyV kyOk (aliveV AL) left kss ∧ GaS w w.heap.size wr A2 c2 ds ∧ (∀ d, d ∈ ds ↔ ∃ p ∈ AL, p.1 ∈ kss ∧ d ∈ p.2.2) ∧ ds.length ≤ 1000 * kss.length)
    (fun _ wr => wr.rangeLeft ab w.heap.size)
  case atStart =>
    exact ⟨_, _, [], none, 0, [], rfl, hrg0, by simp [hsz], hCs, ⟨Own.nil_, HB0.out, by omega⟩, by simp, by simp⟩
  case round =>
    obtain ⟨left, cnt, kss, A2, c2, ds, rfl, hrg, hcs, hC, hG, hds, hdl⟩ := hrel
    go_wp2_with (first
      | (at_next; refine wpList_next_ranges _ rfl _ rfl 54 key_key.law rdV kyV id (fun key kl hk => by obtain ⟨x, _, hx⟩ := key_key.inv _ _ hk; exact ⟨x, hx⟩) (fun v _ _ => ⟨v, rfl⟩) ab w.heap.size AL.length _ _ _ rfl hrg ?_ ?_)
      | go_in)
    · intro hc0 hl0
      have hp := HP.out _ _ hC hl0
      have hmem : ∀ d, d ∈ ds ↔ d ∈ alDots AL := fun d => by
        rw [hds]
        unfold alDots
        rw [List.mem_flatMap]
        constructor
        · rintro ⟨p, h1, _, h2⟩; exact ⟨p, h1, h2⟩
        · rintro ⟨p, h1, h2⟩; exact ⟨p, h1, hp.mem_iff.2 (by simp only [aliveV, List.map_map]; exact List.mem_map.2 ⟨p, h1, rfl⟩), h2⟩
      have hin : ∀ d ∈ ds, ∃ x ∈ K, x.e.dot = d := fun d hd => by
        obtain ⟨p, h1, _, h2⟩ := (hds d).1 hd
        obtain ⟨x, hx, _, e, _⟩ := (HST.out.al p.1 d).1 ⟨p, h1, rfl, h2⟩
        exact ⟨x, hx, e⟩
      have CS := Lib.hid (ormsorted_any wr N m kb ab db sv sb K AL D M (HO.out.up hG.be) HST.out A2 c2 ds (MsAt.own hG.ow) hin (by omega))
      have HF := Lib.hid (And.intro (dsort_congr hmem) hG.be)
      clear hp hmem hC hG hin hds hdl
      generalize ds.length = ll at *
      go_wp2_with fail
      refine CS.out.mono ?_; rintro r w9 ⟨A9, c9, Es9, rfl, h1, h2, h3⟩
      have HR := Lib.hid (show SortedE w K (alDots AL) (.returned (.slice A9 Es9.length c9)) w9 from ⟨A9, c9, Es9, rfl, h1, by rw [h2, HF.out.1], HF.out.2.trans (below_of_le h3 HF.out.2.size)⟩)
      clear h1 h2 h3
      go_wp2
      go_ret
      exact HR.out
    · intro nm dm pt c kl yd yp w2 cnt2 hkey hlk hv hat hrg2 hlt hg2 hs2 hen
      obtain ⟨x', okx, ex⟩ := key_key.inv _ _ hkey
      obtain rfl : (nm, dm, pt) = x' := key_key.inj _ _ ex
      have hkl2 := key_key.klit okx
      rw [hkey] at hkl2
      obtain rfl := Option.some.inj hkl2
      clear ex hkl2
      have hC2 := HS.out _ _ hC _ okx _ hlk hat
      obtain ⟨p, hp, hpk, rfl⟩ : ∃ p ∈ AL, p.1 = (nm, dm, pt) ∧ c = .map (some p.2.1) := by
        have h1 := HAT.out.1 _ okx
        rw [hat] at h1
        have h2 := Maps.has_true_of_atKey hat
        rw [HAT.out.2 _ okx, mvhas_iff] at h2
        obtain ⟨q, hq, e⟩ := List.mem_map.1 h2
        obtain ⟨p, hp, rfl⟩ := List.mem_map.1 hq
        have h3 : yd = .held c := by unfold rdV at hv; injection hv with hv; injection hv with hv _; exact hv.symm
        rw [h3] at h1
        injection h1 with h1
        refine ⟨p, hp, e, ?_⟩
        rw [h1, ← e]
        exact mvget_mem _ HO.out.alive.2.1 hq
      have hcg := grown_ch hg2
      have hG2 : GaS w w.heap.size w2 A2 c2 ds := ⟨hG.ow.ch hcg (fun k hk _ hb e => by have e : some k = some w.heap.size := e; exact ranges_own hrg hG.ow (by rw [hb, ← e])), hG.be.trans (hcg.below (fun k hk e => by have e : some k = some w.heap.size := e; cases e; omega) hG.be.size), Nat.le_trans hG.le hcg.size⟩
      have hi := (HO.out.up hG2.be).inner p hp
      have hplt := (HO.out.inner p hp).lt
      have hsz1 : Maps.size (DataW.map (((ones p.2.2).map (pE Tryz.prog 50 dtV)).foldr DataW.insert [])) = p.2.2.length := by
        show List.length _ = _
        rw [length_sorted, List.length_map, ones_len]
      have hCs1 := Come.start dot_key hi
      have hstep1 := fun left ss hC x hx y hlk hat => Come.step dot_key hi (left := left) (ss := ss) hC (x := x) hx (y := y) hlk hat
      have hperm1 := fun left ss hC hl => Come.perm hi (left := left) (ss := ss) hC hl
      have hown2 := hi.1
      rw [ones_len] at hown2
      have hpl := hle.2 p hp
      have hnew : (nm, dm, pt) ∉ kss := fun hm => by have := ((hC.2.2 _ okx).1 hm).2; rw [hlk] at this; cases this
      have HH := Lib.hid (And.intro hds (And.intro hC2 (And.intro hp hpk)))
      generalize hD1 : (DataW.map (((ones p.2.2).map (pE Tryz.prog 50 dtV)).foldr DataW.insert []) : DataW Unit) = D1 at *
      have h1w : w2.heap.size = wr.heap.size := hs2
      have hwlt : w.heap.size < w2.heap.size := hrg2.lt
      have hm2 := hrg2.left_eq
      have hmr := hrg.left_eq
      clear hC hds hG hcg hi hkey hlk hat hv hC2 hg2
      unfold kyV at hen
      go_wp2_with (first
        | (at_range; refine wpList_range_own _ rfl _ 91 rfl 50 3 dot_key.law Tryz.underlying91 _ p.2.1 p.2.2.length _ rfl hown2 ?_; intro w3 hrg3 hg3 hs3)
        | go_in)
      have HS1 := Lib.hid hstep1
      have HP1 := Lib.hid hperm1
      have hcg3 := grown_ch hg3
      have hG3 : GaS w w.heap.size w3 A2 c2 ds := hG2.up ((Below.refl _ _).grown hg3 (Nat.le_refl _) (fun k hk => by cases hk))
      have hrg23 := ranges_ch hrg2 hcg3 (fun e => by cases e) (fun e => by cases e)
      clear hstep1 hperm1 hD1 hcg3 hG2 hrg2
      rw [h1w] at hrg3 hwlt
      generalize wr.heap.size = R2 at hrg3 hwlt ⊢
      go_loopw [3] (fun s wr => ∃ (left1 : Lit → Bool) (cnt1 : Nat) (ss : List Dt) (A3 : Option Addr) (c3 : Nat), s = .slice A3 (ds ++ ss).length c3 ∧ wr.ranges Tryz.prog 50 (plainElem Tryz.prog 3) p.2.1 R2 p.2.2.length D1 left1 cnt1 ∧ ss.length + cnt1 ≤ p.2.2.length ∧ Come Tryz.prog 50 dtV dtOk (ones p.2.2) left1 ss ∧ GaS w w.heap.size wr A3 c3 (ds ++ ss) ∧ wr.ranges Tryz.prog 54 rdV ab w.heap.size AL.length D0 (fun z => left z && !z.sameKey (klit Tryz.prog 54 kyV (nm, dm, pt))) cnt2)
        (fun _ wr => wr.rangeLeft p.2.1 R2)
      case atStart => exact ⟨_, _, [], A2, c2, by simp, hrg3, by simp [hsz1], hCs1, by simpa using hG3, hrg23⟩
      case round =>
        obtain ⟨left1, cnt1, ss, A3, c3, rfl, hrg4, hcs1, hC1, hG4, hrg5⟩ := hrel
        go_wp2_with (first
          | (at_next; refine wpList_next_ranges _ rfl _ rfl 50 dot_key.law (plainElem Tryz.prog 3) dtV id (fun key kl hk => by obtain ⟨x, _, hx⟩ := dot_key.inv _ _ hk; exact ⟨x, hx⟩) (fun v _ _ => ⟨v, rfl⟩) p.2.1 R2 p.2.2.length _ _ _ rfl hrg4 ?_ ?_)
          | go_in)
        · intro hc0 hl0
          have hpm := HP1.out _ _ hC1 hl0
          go_wp2
          go_roundw
          case rel =>
            refine ⟨_, cnt2, kss ++ [(nm, dm, pt)], A3, c3, ds ++ ss, by simp, hrg5, by simp; omega, HH.out.2.1, hG4, fun d => ?_, ?_⟩
            · rw [List.mem_append, HH.out.1, hpm.mem_iff]
              have e1 : (ones p.2.2).map (·.1) = p.2.2 := by unfold ones; rw [List.map_map]; exact List.map_id _
              rw [e1]
              constructor
              · rintro (⟨q, a, b, c⟩ | a)
                · exact ⟨q, a, List.mem_append_left _ b, c⟩
                · exact ⟨p, HH.out.2.2.1, by rw [HH.out.2.2.2]; simp, a⟩
              · rintro ⟨q, a, b, c⟩
                rcases List.mem_append.1 b with b | b
                · exact .inl ⟨q, a, b, c⟩
                · simp at b
                  have : q = p := al_one HO.out.alive.2.1 a HH.out.2.2.1 (b.trans HH.out.2.2.2.symm)
                  subst this
                  exact .inr c
            · simp; omega
          case measure => rw [hrg5.left_eq, hmr]; exact hlt
        · intro d i s c kl yd yp w4 cnt4 hkey hlk hv hat hrg6 hlt4 hg4 hs4 hen4
          obtain ⟨x', okx1, ex⟩ := dot_key.inv _ _ hkey
          obtain rfl : ((d, i), s) = x' := dot_key.inj _ _ ex
          have hkl := dot_key.klit okx1
          rw [hkey] at hkl
          obtain rfl := Option.some.inj hkl
          clear ex hkl
          have hC4 := HS1.out _ _ hC1 _ okx1 _ hlk hat
          unfold dtV at hen4
          have hcg := grown_ch hg4
          have hG5 : GaS w w.heap.size w4 A3 c3 (ds ++ ss) := ⟨hG4.ow.ch hcg (fun k hk _ hb e => by have e : some k = some R2 := e; exact ranges_own hrg4 hG4.ow (by rw [hb, ← e])), hG4.be.trans (hcg.below (fun k hk e => by have e : some k = some R2 := e; cases e; omega) hG4.be.size), Nat.le_trans hG4.le hcg.size⟩
          have hG6 := Lib.hid (hG5.up ((Below.refl w4.heap.size w4).alloc (Nat.le_refl _) (.cells #[.int .i64 d, .int .i64 i, .int .i64 s] 50)))
          have hrg7 := hrg6.alloc (.cells #[.int .i64 d, .int .i64 i, .int .i64 s] 50)
          have hrg8 := (ranges_ch hrg5 hcg (fun e => by have e : some ab = some R2 := e; cases e; omega) (fun e => by have e : some w.heap.size = some R2 := e; cases e; omega)).alloc (.cells #[.int .i64 d, .int .i64 i, .int .i64 s] 50)
          obtain ⟨A6, c6, w6, q6, o6, gr6, _, _⟩ := app1n (w4.alloc (.cells #[.int .i64 d, .int .i64 i, .int .i64 s] 50)) w.heap.size A3 (ds ++ ss).length c3 (ds ++ ss) rfl hG6.out.ow ((d, i), s) (by simp; omega) hG6.out.le
          have hlo : ∀ k, some k = bl A3 → w.heap.size ≤ k := fun k e => hG6.out.ow.bl_lo _ e.symm
          have hrg9 := ranges_ch hrg7 gr6 (fun e => by have := hlo _ e; omega) (fun e => ranges_own hrg7 hG6.out.ow e)
          have hrg10 := ranges_ch hrg8 gr6 (fun e => by have := hlo _ e; omega) (fun e => ranges_own hrg8 hG6.out.ow e)
          have hG7 : GaS w w.heap.size w6 A6 c6 (ds ++ (ss ++ [((d, i), s)])) := ⟨by rw [← List.append_assoc, List.length_append]; exact o6, hG6.out.be.trans (gr6.below (fun k hk e => by have := hlo _ e; omega) hG6.out.be.size), Nat.le_trans hG6.out.le gr6.size⟩
          have HG7 := Lib.hid (And.intro hG7 (And.intro hrg9 (And.intro hrg10 hC4)))
          clear hG7 hrg9 hrg10 hC4 hG5 hrg7 hrg8 hG6 hG4 o6 gr6 hC1 hcg
          simp only [List.length_append] at q6
          rw [show (w4.alloc (.cells #[.int .i64 d, .int .i64 i, .int .i64 s] 50)).heap.size = wr.heap.size + 1 by simp [hs4]] at q6
          go_wp2_with (first | (at_builtin; refine wpl_append_runs (by rfl) _ _ _ _ rfl _ _ rfl rfl _ _ q6 ?_) | go_in)
          go_roundw
          case rel => exact ⟨_, cnt4, ss ++ [((d, i), s)], A6, c6, by simp; omega, HG7.out.2.1, by simp; omega, HG7.out.2.2.2, HG7.out.1, HG7.out.2.2.1⟩
          case measure => rw [HG7.out.2.1.left_eq, hrg4.left_eq]; exact hlt4
end Go.Proofs.YtpakmeegldgjmaaGreat
/- Layer 15 (match): keys in order; strings.Compare, cmp.Or of three, match.Less. -/
namespace Go.Proofs.YtpakmeegldgjmaaGreat
open Go.RowKit
set_option linter.unusedVariables false
set_option linter.unusedSimpArgs false
set_option maxRecDepth 100000
attribute [local go_sem ↓] Go.wp_at_zero Go.wp_at_succ

abbrev cbI (a b : List UInt8) : Int := Go.Lib.compareBytes a b
theorem cb_nil : cbI [] [] = 0 := rfl
theorem cb_self (a : List UInt8) : cbI a a = 0 := by
  induction a with
  | nil => rfl
  | cons x r ih => show Go.Lib.compareBytes (x :: r) (x :: r) = 0; unfold Go.Lib.compareBytes; simp [ih]
theorem u8_lt (a b : UInt8) : a < b ↔ a.toNat < b.toNat := UInt8.lt_iff_toNat_lt
theorem u8_ext {a b : UInt8} (h : a.toNat = b.toNat) : a = b := UInt8.toNat_inj.1 h
theorem cb_cons (x y : UInt8) (a b : List UInt8) : cbI (x :: a) (y :: b) = if x.toNat < y.toNat then -1 else if y.toNat < x.toNat then 1 else cbI a b := by
  show Go.Lib.compareBytes (x :: a) (y :: b) = _
  rw [Go.Lib.compareBytes]
  simp only [u8_lt]
theorem cb_eq {a b : List UInt8} (h : cbI a b = 0) : a = b := by
  induction a generalizing b with
  | nil => cases b with
    | nil => rfl
    | cons y b => simp [cbI, Go.Lib.compareBytes] at h
  | cons x a ih => cases b with
    | nil => simp [cbI, Go.Lib.compareBytes] at h
    | cons y b =>
      rw [cb_cons] at h
      split at h
      · omega
      · split at h
        · omega
        · rw [ih h, u8_ext (show x.toNat = y.toNat by omega)]
theorem cb_anti (a b : List UInt8) : cbI b a = - cbI a b := by
  induction a generalizing b with
  | nil => cases b with
    | nil => rfl
    | cons y b => simp [cbI, Go.Lib.compareBytes]
  | cons x a ih => cases b with
    | nil => simp [cbI, Go.Lib.compareBytes]
    | cons y b =>
      rw [cb_cons, cb_cons, ih]
      repeat' split
      all_goals omega
theorem cb_trans {a b c : List UInt8} (h : cbI a b < 0) (k : cbI b c < 0) : cbI a c < 0 := by
  induction a generalizing b c with
  | nil => cases b with
    | nil => rw [cb_nil] at h; omega
    | cons y b => cases c with
      | nil => simp [cbI, Go.Lib.compareBytes] at k
      | cons z c => simp [cbI, Go.Lib.compareBytes]
  | cons x a ih => cases b with
    | nil => simp [cbI, Go.Lib.compareBytes] at h
    | cons y b => cases c with
      | nil => simp [cbI, Go.Lib.compareBytes] at k
      | cons z c =>
        rw [cb_cons] at h k ⊢
        split at h
        · split at k
          · rw [if_pos (by omega)]; omega
          · split at k
            · omega
            · rw [if_pos (by omega)]; omega
        · split at h
          · omega
          · split at k
            · rw [if_pos (by omega)]; omega
            · split at k
              · omega
              · rw [if_neg (by omega), if_neg (by omega)]
                exact ih h k
/-- Which of two keys is less. -/
def kcmp (a b : Ky) : Int := orI (cbI a.1 b.1) (orI (cbI a.2.1 b.2.1) (cbI a.2.2 b.2.2))
def kLt (a b : Ky) : Bool := decide (kcmp a b < 0)
theorem kcmp_anti (a b : Ky) : kcmp b a = - kcmp a b := by
  unfold kcmp orI
  rw [cb_anti a.1 b.1, cb_anti a.2.1 b.2.1, cb_anti a.2.2 b.2.2]
  repeat' split
  all_goals omega
theorem kcmp_eq {a b : Ky} (h : kcmp a b = 0) : a = b := by
  unfold kcmp orI at h
  split at h
  · rename_i h1
    split at h
    · rename_i h2
      exact Prod.ext (cb_eq h1) (Prod.ext (cb_eq h2) (cb_eq h))
    · rename_i h2; exact absurd h h2
  · rename_i h1; exact absurd h h1
theorem kcmp_trans {a b c : Ky} (h : kcmp a b < 0) (k : kcmp b c < 0) : kcmp a c < 0 := by
  obtain ⟨a1, a2, a3⟩ := a
  obtain ⟨b1, b2, b3⟩ := b
  obtain ⟨c1, c2, c3⟩ := c
  unfold kcmp orI at h k ⊢
  simp only at h k ⊢
  by_cases h1 : cbI a1 b1 = 0
  · obtain rfl := cb_eq h1
    rw [if_pos h1] at h
    by_cases k1 : cbI a1 c1 = 0
    · rw [if_pos k1] at k ⊢
      by_cases h2 : cbI a2 b2 = 0
      · obtain rfl := cb_eq h2
        rw [if_pos h2] at h
        by_cases k2 : cbI a2 c2 = 0
        · rw [if_pos k2] at k ⊢
          exact cb_trans h k
        · rw [if_neg k2] at k ⊢
          exact k
      · rw [if_neg h2] at h
        by_cases k2 : cbI b2 c2 = 0
        · obtain rfl := cb_eq k2
          rw [if_neg h2]
          exact h
        · rw [if_neg k2] at k
          have := cb_trans h k
          rw [if_neg (by omega)]
          exact this
    · rw [if_neg k1] at k ⊢
      exact k
  · rw [if_neg h1] at h
    by_cases k1 : cbI b1 c1 = 0
    · obtain rfl := cb_eq k1
      rw [if_neg h1]
      exact h
    · rw [if_neg k1] at k
      have := cb_trans h k
      rw [if_neg (by omega)]
      exact this
theorem kLt_irrefl (a : Ky) : kLt a a = false := by
  unfold kLt kcmp orI
  simp [cb_self]
theorem kLt_trans {a b c : Ky} (h : kLt a b = true) (k : kLt b c = true) : kLt a c = true := by
  unfold kLt at *
  simp only [decide_eq_true_eq] at *
  exact kcmp_trans h k
theorem kLt_tri {a b : Ky} (h : kLt a b = false) (k : kLt b a = false) : a = b := by
  unfold kLt at *
  simp only [decide_eq_false_iff_not] at *
  rw [kcmp_anti] at k
  exact kcmp_eq (by omega)
theorem strcmp_any (a b : List UInt8) (w : World) : Calls Tryz.prog 129 #[.string (bs a), .string (bs b)] w fun e w' => e = .returned (.int .i64 (cbI a b)) ∧ w = w' := by
  have CB : Calls Tryz.prog 152 #[.string (bs a), .string (bs b)] w fun e w' => e = .returned (.int .i64 (cbI a b)) ∧ w = w' := by
    go_enter Tryz.func152, Tryz.ntmps152
    go_wp2
    rw [run_callFunc_extern Tryz.func169 (by kernel_rfl) (by kernel_rfl) (by kernel_rfl) (e := Extern.BytealgCompare.compare) (by kernel_rfl), Lib.run_compareString]
    simp only [Result.andThen]
    rw [Oper.upon_value]
    go_wp2
    go_ret
    exact ⟨by simp [bs], rfl⟩
  have C := Lib.hid CB
  clear CB
  go_enter Tryz.func129, Tryz.ntmps129
  go_wp2_with fail
  refine C.out.mono ?_; rintro e w1 ⟨rfl, rfl⟩
  go_wp2
  go_ret
  exact ⟨rfl, rfl⟩
theorem or3_any (a b d : Int) (g c B : Nat) (w : World) (hr : Rd w B 1 (some ⟨g, 0, none⟩) 3 [.int .i64 a, .int .i64 b, .int .i64 d]) :
    Calls Tryz.prog 128 #[.slice (some ⟨g, 0, none⟩) 3 c] w fun e w' => e = .returned (.int .i64 (orI a (orI b d))) ∧ w = w' := by
  obtain ⟨g', o, hA, _, hcell⟩ := hr.2 (by omega)
  injection hA with hA
  injection hA with hA1 hA2
  subst hA1 hA2
  have c0 : w.cell? ⟨g, 0, none⟩ = some (.int .i64 a) := hcell 0 _ rfl
  have c1 : w.cell? ⟨g, 1, none⟩ = some (.int .i64 b) := hcell 1 _ rfl
  have c2 : w.cell? ⟨g, 2, none⟩ = some (.int .i64 d) := hcell 2 _ rfl
  clear hr hcell
  go_enter Tryz.func128, Tryz.ntmps128
  go_wp2
  go_loop [8] (fun i => ∃ j : Nat, j ≤ 3 ∧ i = .int .i64 j ∧ (0 < j → a = 0) ∧ (1 < j → b = 0) ∧ (2 < j → d = 0)) (fun i => 3 - (intOf i).toNat)
  case atStart => exact ⟨0, by omega, rfl, by omega, by omega, by omega⟩
  case round =>
    obtain ⟨j, hj, rfl, h0, h1, h2⟩ := hrel
    have hj3 : j = 0 ∨ j = 1 ∨ j = 2 ∨ j = 3 := by omega
    rcases hj3 with rfl | rfl | rfl | rfl
    · by_cases ha : a = 0
      · subst ha
        go_wp2
        go_round
        case rel => exact ⟨1, by omega, rfl, fun _ => by trivial, by omega, by omega⟩
        case measure => simp [intOf]
      · have t : (a == 0) = false := by simp; exact ha
        go_wp2
        go_ret
        exact ⟨ret_int (by simp [orI, ha]), rfl⟩
    · have ha := h0 (by omega)
      subst ha
      by_cases hb : b = 0
      · subst hb
        go_wp2
        go_round
        case rel => exact ⟨2, by omega, rfl, fun _ => by trivial, fun _ => by trivial, by omega⟩
        case measure => simp [intOf]
      · have t : (b == 0) = false := by simp; exact hb
        go_wp2
        go_ret
        exact ⟨ret_int (by simp [orI, hb]), rfl⟩
    · have ha := h0 (by omega)
      have hb := h1 (by omega)
      subst ha hb
      by_cases hd : d = 0
      · subst hd
        go_wp2
        go_round
        case rel => exact ⟨3, by omega, rfl, fun _ => by trivial, fun _ => by trivial, fun _ => by trivial⟩
        case measure => simp [intOf]
      · have t : (d == 0) = false := by simp; exact hd
        go_wp2
        go_ret
        exact ⟨ret_int (by simp [orI]), rfl⟩
    · have ha := h0 (by omega)
      have hb := h1 (by omega)
      have hd := h2 (by omega)
      subst ha hb hd
      go_wp2
      go_ret
      exact ⟨ret_int (by simp [orI]), rfl⟩
theorem keys_up (a b : Ky) (w : World) : Calls Tryz.prog 95 #[kyV a, kyV b] w fun e w' => e = .returned (.int .i64 (kcmp a b)) ∧ UpN w.heap.size w w' := by
  have C1 := Lib.hid (fun w => strcmp_any a.1 b.1 w)
  have C2 := Lib.hid (fun w => strcmp_any a.2.1 b.2.1 w)
  have C3 := Lib.hid (fun w => strcmp_any a.2.2 b.2.2 w)
  have C4 := Lib.hid (fun g c B w hr => or3_any (cbI a.1 b.1) (cbI a.2.1 b.2.1) (cbI a.2.2 b.2.2) g c B w hr)
  unfold kcmp
  generalize cbI a.1 b.1 = x at *
  generalize cbI a.2.1 b.2.1 = y at *
  generalize cbI a.2.2 b.2.2 = z at *
  unfold kyV
  have hB := boxes_new w 54 #[.string (bs a.1), .string (bs a.2.1), .string (bs a.2.2)] #[.string (bs b.1), .string (bs b.2.1), .string (bs b.2.2)]
  have hU := Lib.hid (up_boxes w 54 #[.string (bs a.1), .string (bs a.2.1), .string (bs a.2.2)] #[.string (bs b.1), .string (bs b.2.1), .string (bs b.2.2)])
  have hBH := Lib.hid hB
  clear hB
  go_enter Tryz.func95, Tryz.ntmps95
  go_wp2_with fail
  obtain ⟨hb, hs, h1, h2⟩ := hBH.out
  clear hb hBH
  generalize (w.alloc (.cells #[.string (bs a.1), .string (bs a.2.1), .string (bs a.2.2)] 54)).alloc (.cells #[.string (bs b.1), .string (bs b.2.1), .string (bs b.2.2)] 54) = W at *
  have c0 : W.cell? ⟨w.heap.size, 0, none⟩ = some (.string (bs a.1)) := by rw [h1.cell]; rfl
  have c1 : W.cell? ⟨w.heap.size, 1, none⟩ = some (.string (bs a.2.1)) := by rw [h1.cell]; rfl
  have c2 : W.cell? ⟨w.heap.size, 2, none⟩ = some (.string (bs a.2.2)) := by rw [h1.cell]; rfl
  have c3 : W.cell? ⟨w.heap.size + 1, 0, none⟩ = some (.string (bs b.1)) := by rw [h2.cell]; rfl
  have c4 : W.cell? ⟨w.heap.size + 1, 1, none⟩ = some (.string (bs b.2.1)) := by rw [h2.cell]; rfl
  have c5 : W.cell? ⟨w.heap.size + 1, 2, none⟩ = some (.string (bs b.2.2)) := by rw [h2.cell]; rfl
  go_still_tail 15, (by kernel_rfl)
  still_call (stillL (C1.out _))
  repeat still_step
  still_call (stillL (C2.out _))
  repeat still_step
  still_call (stillL (C3.out _))
  repeat still_step
  refine wpStill_nil ?_
  change wpList _ _ _ _ _ W.drew
  clear c0 c1 c2 c3 c4 c5 h1 h2
  have hBl2 := Lib.hid (hU.out.drew)
  clear hU
  generalize W.drew = W2 at *
  go_wp2_with fail
  refine (C4.out W2.heap.size 3 _ _ (Rd.fresh _ _ _ 3 rfl)).mono ?_; rintro e w3 ⟨rfl, rfl⟩
  go_wp2
  go_ret
  exact ⟨rfl, hBl2.out.alloc hBl2.out.1.size _⟩
theorem mless_up (a b : Ky) (w : World) : Calls Tryz.prog 56 #[kyV a, kyV b] w fun e w' => e = .returned (.bool (kLt a b)) ∧ UpN w.heap.size w w' := by
  have C1 := Lib.hid (fun w => keys_up a b w)
  unfold kLt
  generalize kcmp a b = z at *
  have hU := Lib.hid (up_boxes w 54 #[.string (bs a.1), .string (bs a.2.1), .string (bs a.2.2)] #[.string (bs b.1), .string (bs b.2.1), .string (bs b.2.2)])
  unfold kyV at C1 ⊢
  go_enter Tryz.func56, Tryz.ntmps56
  go_wp2_with fail
  refine (C1.out _).mono ?_; rintro e w1 ⟨rfl, b1⟩
  go_wp2
  go_ret
  exact ⟨rfl, hU.out.trans (b1.le (by simp; omega))⟩
end Go.Proofs.YtpakmeegldgjmaaGreat
