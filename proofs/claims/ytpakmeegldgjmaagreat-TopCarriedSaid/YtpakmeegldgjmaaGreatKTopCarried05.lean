/- TopCarried: part 5 of what the proof rests on: contracts of functions, and plain laws. -/
import Derived.WalkKit
import Derived.ProofKit
import Derived.OpenShut
import Derived.Handy
import Derived.Outline
import Derived.Lib.Hide
import Derived.Deep.Draws
import Derived.Laws.OwnMore
import Derived.Laws.AppendOwn
import Derived.Laws.AppendOwnNone
import Derived.Laws.BitsAllLaws
import Derived.Laws.Bits64b
import Derived.Lib.AppendZeros
import Derived.Lib.AppendZerosOnto
import Derived.Laws.CopyRow
import Derived.Lib.AppendStr
import Derived.Test.YtpakmeegldgjmaaGreatRows
import Derived.Lib.Zigzag
import Derived.Deep.QuietTactic
import Derived.BigQuiet
import Derived.Deep.LoopGhost
import Derived.BigRegion
import Derived.RegionTactic
import Derived.Deep.WholeRow
import Derived.Deep.Slices
import Derived.Lib.Varint
import Derived.WalkSpells
import Derived.Laws.BytesString
import Derived.Laws.Concat
import Derived.IntWalk
import Derived.Test.YtpakmeegldgjmaaGreatProg
import Derived.Deep.RegionHeld3
import Derived.StillTailTactics
import Derived.Laws.StructEq
import Derived.Lib.SmallJoins
import Derived.Deep.Strs
import Derived.Laws.IdiomStrings
import Derived.Lib.SlBytesConst
import Derived.Deep.RegionWith
import Derived.Maps.Own
import Derived.Maps.OwnSet
import Derived.Maps.Range
import Derived.DeepKeys4
import Derived.ChangeKeysEq
import Derived.DeepKeys2
import Derived.RangeFuncNested
import Derived.RangeFuncBound
import Derived.RangeFuncCalls
import Derived.RangeFuncLeaves
import Derived.Sort.MapsRangeIn
import Derived.OwnWalkIn
import Derived.TacticsInMore
import Derived.RegionIn
import Derived.LoopNIn
import Derived.LoopIn
import Derived.Maps.AppendAt
import Derived.Sort.Grow
import Derived.Shelf.GgSortFunc.InsertionK
import Derived.Shelf.SlSortCmp.NoneTotal
import Derived.WideKeyEntry
import Derived.Deep.CutBlock
import Derived.Deep.CutRange
import Derived.Deep.RegionLaw
import Derived.Deep.DeepCutAuto
import Derived.Deep.DrawnRows
import Derived.WalkLawsBesides
import Derived.Deep.MidRow
import Derived.Laws.Strings2
import Derived.Test.YtpakmeegldgjmaaGreatKTopCarried04
/- Layer 20 (event): item, Get, of an event that was packed. -/
namespace Go.Proofs.YtpakmeegldgjmaaGreat
open Go.RowKit
set_option linter.unusedVariables false
set_option linter.unusedSimpArgs false
set_option maxRecDepth 100000
attribute [local go_sem ↓] Go.wp_at_zero Go.wp_at_succ
attribute [local go_sem] bs_size bs_list bs_nil_list

theorem stG_puts {d i s : Int} (h : stB d i s = true) (R : List UInt8) : stG (stP d i s ++ R) 0 = ((d.toNat, i.toNat, s.toNat), R, 0) := by
  have hb := h
  simp [stB, inB] at hb
  unfold stG stP
  rw [if_pos h]
  simp only [List.append_assoc]
  simp only [rnumR_putx (vput i.toNat ++ (vput s.toNat ++ R)) (show d.toNat ≤ 4398046511104 by omega) (by omega), rnumR_putx (vput s.toNat ++ R) (show i.toNat ≤ 65535 by omega) (by omega), rnumR_putx R (show s.toNat ≤ 63 by omega) (by omega)]
theorem stGV_puts {d i s : Int} (h : stB d i s = true) (R : List UInt8) : stGV (stP d i s ++ R) 0 = stV d i s := by
  have hb := h
  simp [stB, inB] at hb
  unfold stGV
  rw [stG_puts h]
  simp only [ne_eq, not_true_eq_false, if_false]
  rw [Int.toNat_of_nonneg (by omega), Int.toNat_of_nonneg (by omega), Int.toNat_of_nonneg (by omega)]
theorem cget_put (d i s : Int) (hq : stB d i s = true) (R : List UInt8) (w : World) (b : Nat) (A : Option Addr) (n c : Nat) (h : Re w b A n c (stP d i s ++ R) 0) :
    Calls Tryz.prog 81 #[.pointer (some ⟨b, 0, none⟩)] w (REnd w b (R, 0) (stV d i s)) := by
  have := cget_any w b A n c _ 0 h
  rw [stG_puts hq, stGV_puts hq] at this
  exact this
/-- The result's own block, as it was laid. -/
def zeroE : Array Value := #[.int .i64 0, .int .i64 0, .int .i64 0, .int .i64 0, .int .i64 0, .int .i64 0, .int .i64 0, .string ⟨#[]⟩, .string ⟨#[]⟩, .string ⟨#[]⟩, .string ⟨#[]⟩, .bool false, .bool false, .bool false, .bool false, .int .i64 0, .int .i64 0, .int .i64 0, .slice none 0 0]
/-- What is told while an event is read: the reader, the event that is made, the block of the result. -/
structure GS (w : World) (b X Rz : Nat) (W : World) (A : Option Addr) (n c : Nat) (l : List UInt8) (e : Ed) (Ao : Option Addr) (co : Nat) : Prop where
  re : Re W b A n c l 0
  ev : Whole W X 59 (evA e Ao co)
  rz : Whole W Rz 59 zeroE
  bx : b < w.heap.size
  wx : w.heap.size ≤ X
  wr : w.heap.size ≤ Rz
  ne : X ≠ Rz
  ch : Ch (fun k => k = b) w W
  ow : Own W w.heap.size 50 3 Ao e.over.length co (dts e.over)
section
variable {w W W' : World} {b X Rz n c n' c' co : Nat} {A A' Ao : Option Addr} {l l' : List UInt8} {e e' : Ed}
theorem GS.read (h : GS w b X Rz W A n c l e Ao co) (hr : Re W' b A' n' c' l' 0) (hc : Ch (fun k => k = b) W W') : GS w b X Rz W' A' n' c' l' e Ao co :=
  have h1 := h.bx; have h2 := h.wx; have h3 := h.wr
  ⟨hr, h.ev.ch hc (by omega), h.rz.ch hc (by omega), h1, h2, h3, h.ne, h.ch.trans hc (fun _ _ e => e), h.ow.ch hc (fun k hk _ _ e => by omega)⟩
theorem GS.set_ (h : GS w b X Rz W A n c l e Ao co) (i : Nat) (v : Value) (he : (evA e Ao co).setIfInBounds i v = evA e' Ao co) (ho : e'.over = e.over) : GS w b X Rz (W.setCell ⟨X, i, none⟩ v) A n c l e' Ao co := by
  have h1 := h.bx; have h2 := h.wx; have h3 := h.wr; have h4 := h.ne
  obtain ⟨q1, q2, q3⟩ := h.re
  refine ⟨⟨q1.far (p := ⟨X, i, none⟩) (by show b ≠ X; omega) v, q2.setCell (p := ⟨X, i, none⟩) (by show b ≤ X; omega) v, q3⟩, he ▸ h.ev.set_ i v, h.rz.far (p := ⟨X, i, none⟩) (by show Rz ≠ X; omega) v, h1, h2, h3, h4, h.ch.trans (Ch.set_ W ⟨X, i, none⟩ v) (fun k hk e => by have e' : k = X := e; omega), ?_⟩
  rw [ho]
  exact h.ow.far (p := ⟨X, i, none⟩) (h.ow.ne_ h.ev (by decide)) v
theorem GS.low (h : GS w b X Rz W A n c l e Ao co) (k : Below W.heap.size W W') : GS w b X Rz W' A n c l e Ao co :=
  ⟨⟨h.re.1.below k h.re.1.lt, h.re.2.1.below (below_of_le k (Nat.le_of_lt h.re.1.lt)), h.re.2.2⟩, h.ev.below k h.ev.lt, h.rz.below k h.rz.lt, h.bx, h.wx, h.wr, h.ne, h.ch.trans (below_ch (S := fun _ => False) k) (fun _ _ hf => hf.elim), h.ow.below k (Nat.le_refl _)⟩
end
theorem text_put (t : List UInt8) (m : Nat) (R : List UInt8) (w : World) (b : Nat) (A : Option Addr) (n c : Nat) (h : Re w b A n c (txP t ++ R) 0) (hm : t.length ≤ m) (hm2 : m ≤ 100000) :
    Calls Tryz.prog 107 #[.pointer (some ⟨b, 0, none⟩), .int .i64 m] w (REnd w b (R, 0) (.string (bs t))) :=
  rtext_put (bs t) R w b A n c m (by unfold txP at h; rw [List.append_assoc] at h; exact h) hm (by omega)
set_option maxHeartbeats 4000000 in
theorem evitem_any (e e1 : Ed) (R : List UInt8) (w : World) (b X Rz : Nat) (W : World) (A : Option Addr) (n c : Nat) (Ao : Option Addr) (co : Nat) (h : GS w b X Rz W A n c (itP e ++ R) e1 Ao co) (ok : EvOk e) (hk : e.kind = 1) :
    Calls Tryz.prog 83 #[.pointer (some ⟨b, 0, none⟩), .pointer (some ⟨X, 0, none⟩)] W fun r W' => r = .returned (.tuple #[]) ∧ ∃ A' n' c', GS w b X Rz W' A' n' c' R { e1 with name := e.name, dom := e.dom, path := e.path, value := e.value, exp := e.exp, cre := e.cre, acc := e.acc } Ao co := by
  have lens := Lib.hid (ok.lens hk)
  have tms := Lib.hid (ok.times hk)
  obtain ⟨cn, hcn⟩ := Int.eq_ofNat_of_zero_le tms.out.2.2.1
  obtain ⟨an, han⟩ := Int.eq_ofNat_of_zero_le tms.out.2.2.2.2.1
  have hl : itP e ++ R = txP e.name ++ (txP e.dom ++ (txP e.path ++ (txP e.value ++ (vput (foldI e.exp).toNat ++ (vput cn ++ (vput an ++ R)))))) := by
    unfold itP
    rw [hcn, han]
    simp
  rw [hl] at h
  have G1 := Lib.hid h
  have T1 := Lib.hid (fun W A n c h => text_put e.name 256 (txP e.dom ++ (txP e.path ++ (txP e.value ++ (vput (foldI e.exp).toNat ++ (vput cn ++ (vput an ++ R)))))) W b A n c h lens.out.1 (by omega))
  have T2 := Lib.hid (fun W A n c h => text_put e.dom 256 (txP e.path ++ (txP e.value ++ (vput (foldI e.exp).toNat ++ (vput cn ++ (vput an ++ R))))) W b A n c h lens.out.2.1 (by omega))
  have T3 := Lib.hid (fun W A n c h => text_put e.path 256 (txP e.value ++ (vput (foldI e.exp).toNat ++ (vput cn ++ (vput an ++ R)))) W b A n c h lens.out.2.2.1 (by omega))
  have T4 := Lib.hid (fun W A n c h => text_put e.value 1024 (vput (foldI e.exp).toNat ++ (vput cn ++ (vput an ++ R))) W b A n c h lens.out.2.2.2 (by omega))
  rw [show ((256 : Nat) : Int) = 256 from rfl] at T1 T2 T3
  rw [show ((1024 : Nat) : Int) = 1024 from rfl] at T4
  have T5 := Lib.hid (fun W A n c h => rint_put e.exp (vput cn ++ (vput an ++ R)) W b A n c 1099511627776 h (by omega) (by omega) tms.out.1 tms.out.2.1)
  have T6 := Lib.hid (fun (W : World) A n c (h : Re W b A n c (vput cn ++ (vput an ++ R)) 0) => by have := rnum_any W b A n c _ 0 1099511627776 h; rw [rnumR_putx _ (by have := tms.out; omega) (by have := tms.out; omega)] at this; exact this)
  have T7 := Lib.hid (fun (W : World) A n c (h : Re W b A n c (vput an ++ R) 0) => by have := rnum_any W b A n c _ 0 1099511627776 h; rw [rnumR_putx _ (by have := tms.out; omega) (by have := tms.out; omega)] at this; exact this)
  rw [show ((1099511627776 : Nat) : Int) = 1099511627776 from rfl] at T6 T7
  have y6 : IntKind.i64.wrap (cn : Int) = e.cre := by rw [hcn]; exact IntWalk.i64_in _ (by have := tms.out; omega)
  have y7 : IntKind.i64.wrap (an : Int) = e.acc := by rw [han]; exact IntWalk.i64_in _ (by have := tms.out; omega)
  clear lens tms hl h hcn han hk
  go_enter Tryz.func83, Tryz.ntmps83
  go_wp2
  go_quiet (fail)
  have G1 := Lib.hid (G1.out.low (below_drewN (Below.refl _ _) nq))
  generalize W.drewN nq = V1 at *
  go_wp2_with fail
  refine (T1.out _ _ _ _ G1.out.re).mono ?_; rintro r w2 ⟨A2, n2, c2, rfl, hr2, hc2⟩
  have H2 := Lib.hid (G1.out.read hr2 hc2)
  clear hr2 hc2
  have k2 := H2.out.ev.cell 7
  have k2 : w2.cell? ⟨X, 7, none⟩ = some (_) := k2
  have f2 := H2.out.ev.free 7
  have G2 := Lib.hid (H2.out.set_ 7 (.string (bs e.name)) (e' := { e1 with name := e.name }) rfl rfl)
  go_wp2_with fail
  refine (T2.out _ _ _ _ G2.out.re).mono ?_; rintro r w3 ⟨A3, n3, c3, rfl, hr3, hc3⟩
  have H3 := Lib.hid (G2.out.read hr3 hc3)
  clear hr3 hc3
  have k3 := H3.out.ev.cell 8
  have k3 : w3.cell? ⟨X, 8, none⟩ = some (_) := k3
  have f3 := H3.out.ev.free 8
  have G3 := Lib.hid (H3.out.set_ 8 (.string (bs e.dom)) (e' := { e1 with name := e.name, dom := e.dom }) rfl rfl)
  go_wp2_with fail
  refine (T3.out _ _ _ _ G3.out.re).mono ?_; rintro r w4 ⟨A4, n4, c4, rfl, hr4, hc4⟩
  have H4 := Lib.hid (G3.out.read hr4 hc4)
  clear hr4 hc4
  have k4 := H4.out.ev.cell 9
  have k4 : w4.cell? ⟨X, 9, none⟩ = some (_) := k4
  have f4 := H4.out.ev.free 9
  have G4 := Lib.hid (H4.out.set_ 9 (.string (bs e.path)) (e' := { e1 with name := e.name, dom := e.dom, path := e.path }) rfl rfl)
  go_wp2_with fail
  refine (T4.out _ _ _ _ G4.out.re).mono ?_; rintro r w5 ⟨A5, n5, c5, rfl, hr5, hc5⟩
  have H5 := Lib.hid (G4.out.read hr5 hc5)
  clear hr5 hc5
  have k5 := H5.out.ev.cell 10
  have k5 : w5.cell? ⟨X, 10, none⟩ = some (_) := k5
  have f5 := H5.out.ev.free 10
  have G5 := Lib.hid (H5.out.set_ 10 (.string (bs e.value)) (e' := { e1 with name := e.name, dom := e.dom, path := e.path, value := e.value }) rfl rfl)
  go_wp2_with fail
  refine (T5.out _ _ _ _ G5.out.re).mono ?_; rintro r w6 ⟨A6, n6, c6, rfl, hr6, hc6⟩
  have H6 := Lib.hid (G5.out.read hr6 hc6)
  clear hr6 hc6
  have k6 := H6.out.ev.cell 15
  have k6 : w6.cell? ⟨X, 15, none⟩ = some (_) := k6
  have f6 := H6.out.ev.free 15
  have G6 := Lib.hid (H6.out.set_ 15 (.int .i64 e.exp) (e' := { e1 with name := e.name, dom := e.dom, path := e.path, value := e.value, exp := e.exp }) rfl rfl)
  go_wp2_with fail
  refine (T6.out _ _ _ _ G6.out.re).mono ?_; rintro r w7 ⟨A7, n7, c7, rfl, hr7, hc7⟩
  have H7 := Lib.hid (G6.out.read hr7 hc7)
  clear hr7 hc7
  have k7 := H7.out.ev.cell 16
  have k7 : w7.cell? ⟨X, 16, none⟩ = some (_) := k7
  have f7 := H7.out.ev.free 16
  have G7 := Lib.hid (H7.out.set_ 16 (.int .i64 e.cre) (e' := { e1 with name := e.name, dom := e.dom, path := e.path, value := e.value, exp := e.exp, cre := e.cre }) rfl rfl)
  go_wp2_with fail
  refine (T7.out _ _ _ _ G7.out.re).mono ?_; rintro r w8 ⟨A8, n8, c8, rfl, hr8, hc8⟩
  have H8 := Lib.hid (G7.out.read hr8 hc8)
  clear hr8 hc8
  have k8 := H8.out.ev.cell 17
  have k8 : w8.cell? ⟨X, 17, none⟩ = some (_) := k8
  have f8 := H8.out.ev.free 17
  have G8 := Lib.hid (H8.out.set_ 17 (.int .i64 e.acc) (e' := { e1 with name := e.name, dom := e.dom, path := e.path, value := e.value, exp := e.exp, cre := e.cre, acc := e.acc }) rfl rfl)
  go_wp2
  first | go_end0 | refine bodyPost_ret (results_none rfl _ _ _) rfl ?_
  exact ⟨rfl, _, _, _, G8.out⟩
end Go.Proofs.YtpakmeegldgjmaaGreat
/- Stores of a struct into a part of a block; results that lie in a block. -/
namespace Go.Proofs.YtpakmeegldgjmaaGreat
open Go.RowKit
set_option linter.unusedVariables false
set_option maxRecDepth 100000

section
variable {P : Program} {W : World} {g : Nat} {t T : TypeId} {cs : Array Value} {d : TypeDesc} {ops : Array Oper} {rest : List Oper} {op : Oper} {a : Act} {Q : Exit → Act → World → Prop}
/-- The store of a struct into a part of a whole block. -/
theorem st_mid {C vs : Array Value} {o : Nat} (hg : Region.wanted op (yielded ops a.tmps) = true) (x y : Operand) (ho : op.op = .store T x y) (hx : a.eval x = .pointer (some ⟨g, o, none⟩)) (hy : a.eval y = .agg vs) (hW : Whole W g t C) (hs : o + vs.size ≤ C.size) (hi : (P.info? T).map (·.size) = some vs.size) (h1 : vs.toList.all (·.oneCell') = true)
    (h : ∀ W', Whole W' g t (setMany C o vs.toList) → Ch (fun k => k = g) W W' → W'.heap.size = W.heap.size → wpList P ops Q rest (a.put op.dst undef) W') : wpList P ops Q (op :: rest) a W :=
  wpList_want hg fun K hK => wp_store_mid T x y ho g o vs hx hy (fun j hj => ⟨by rw [hW.cell]; simp; have := hj; omega, hW.free _⟩) hi (by rw [← Array.all_toList]; exact h1) (hK _ _ (h _ (heap_setCells vs.toList W C o hW) (ch_setCells _ _ _ _).1 (ch_setCells _ _ _ _).2))
/-- A result that lies in a block. -/
theorem results_cell {fn : Func} {b : Tmp} {vs : Array Value} {tmps : Array Value} (h : fn.results = #[.cell b T]) (hx : tmps.getD b undef = .pointer (some ⟨g, 0, none⟩)) (hW : W.rangeAt g 0 vs.toList) (hu : P.underlying T = some d) (hd : d.isRow = true) (hi : (P.info? T).map (·.size) = some vs.size) :
    (results fn tmps).run P W = .ok (.agg vs) W := by
  have := run_loadVar_mid W g 0 T vs.toList d hW hu hd (by rw [hi]; simp)
  simp only [Array.toArray_toList] at this
  have hx' : tmps[b]?.getD undef = .pointer (some ⟨g, 0, none⟩) := by rw [← hx]; simp
  simp [results, h, hx', asAddr, this]
/-- Two results, of which the first one lies in a block. -/
theorem results_cell2 {fn : Func} {b u : Tmp} {vs : Array Value} {tmps : Array Value} (h : fn.results = #[.cell b T, .tmp u]) (hx : tmps.getD b undef = .pointer (some ⟨g, 0, none⟩)) (hW : W.rangeAt g 0 vs.toList) (hu : P.underlying T = some d) (hd : d.isRow = true) (hi : (P.info? T).map (·.size) = some vs.size) :
    (results fn tmps).run P W = .ok (.tuple #[.agg vs, tmps.getD u undef]) W := by
  have := run_loadVar_mid W g 0 T vs.toList d hW hu hd (by rw [hi]; simp)
  simp only [Array.toArray_toList] at this
  have hx' : tmps[b]?.getD undef = .pointer (some ⟨g, 0, none⟩) := by rw [← hx]; simp
  simp [results, h, hx', asAddr, this]
/-- 'buildSlice' of one element as a step of a region that draws, its run known. -/
theorem step_bslice {K : Act → World → Prop} {E : Prop} (hg : op.guard = none) (x : Operand) (ho : op.op = .buildSlice T 1 #[(0, x)]) (v : Value) (hx : a.eval x = v) (v' : Value) (w' : World) (hr : (Instr.buildSlice T 1 #[(0, v)]).run P W = .ok v' w') (h : K (a.put op.dst v') w') : if Region.wanted op (yielded ops a.tmps) = true then Oper.wp P op a W K Q else E := by
  have hw : Region.wanted op (yielded ops a.tmps) = true := by simp [Region.wanted, hg]
  rw [if_pos hw]
  unfold Oper.wp execOp
  simp only [ho, List.map_toArray, List.map_cons, List.map_nil, hx]
  simp only [Sem.run_bind, hr, Result.andThen_ok]
  exact h
/-- The same in a plain region. -/
theorem wpl_bslice (hg : Region.wanted op (yielded ops a.tmps) = true) (x : Operand) (ho : op.op = .buildSlice T 1 #[(0, x)]) (v : Value) (hx : a.eval x = v) (v' : Value) (w' : World) (hr : (Instr.buildSlice T 1 #[(0, v)]).run P W = .ok v' w') (h : wpList P ops Q rest (a.put op.dst v') w') : wpList P ops Q (op :: rest) a W :=
  wpList_want hg fun K hK => by
    unfold Oper.wp execOp
    simp only [ho, List.map_toArray, List.map_cons, List.map_nil, hx]
    simp only [Sem.run_bind, hr, Result.andThen_ok]
    exact hK _ _ h
end
end Go.Proofs.YtpakmeegldgjmaaGreat
/- Layer 20 (event): Get, of an event that was packed. -/
namespace Go.Proofs.YtpakmeegldgjmaaGreat
open Go.RowKit
set_option linter.unusedVariables false
set_option linter.unusedSimpArgs false
set_option maxRecDepth 100000
attribute [local go_sem ↓] Go.wp_at_zero Go.wp_at_succ
attribute [local go_sem] bs_size bs_list bs_nil_list

section
variable {w W W' : World} {b X Rz n c n' c' co : Nat} {A A' Ao : Option Addr} {l l' : List UInt8} {e e' : Ed}
theorem GS.x_apart (h : GS w b X Rz W A n c l e Ao co) : bl Ao ≠ some X := by have := h.ow.ne_ h.ev (by decide); rwa [ownBlock_bl] at this
theorem GS.r_apart (h : GS w b X Rz W A n c l e Ao co) : bl Ao ≠ some Rz := by have := h.ow.ne_ h.rz (by decide); rwa [ownBlock_bl] at this
/-- Behind an append to Over, ahead of its store. -/
theorem GS.mid (h : GS w b X Rz W A n c l e Ao co) (hC : Ch (fun k => some k = bl Ao) W W') : Re W' b A n c l 0 ∧ Whole W' X 59 (evA e Ao co) ∧ Whole W' Rz 59 zeroE := by
  have h1 := h.bx
  have hlo : ∀ k, some k = bl Ao → w.heap.size ≤ k := fun k hk => h.ow.bl_lo k hk.symm
  refine ⟨⟨h.re.1.ch hC (fun e => by have := hlo _ e; omega), h.re.2.1.ch (Nat.le_of_lt h.re.1.lt) hC (fun k hk _ e => by have := hlo _ e; omega), h.re.2.2⟩, h.ev.ch hC (fun e => h.x_apart e.symm), h.rz.ch hC (fun e => h.r_apart e.symm)⟩
theorem GS.app (h : GS w b X Rz W A n c l e Ao co) {A2 : Option Addr} {c2 : Nat} {x : Dt} (hC : Ch (fun k => some k = bl Ao) W W') (ho : Own W' w.heap.size 50 3 A2 (e.over.length + 1) c2 (dts (e.over ++ [x]))) :
    GS w b X Rz (W'.setCell ⟨X, 18, none⟩ (.slice A2 (e.over.length + 1) c2)) A n c l { e with over := e.over ++ [x] } A2 c2 := by
  obtain ⟨hr, hx, hz⟩ := h.mid hC
  have h1 := h.bx; have h2 := h.wx; have h3 := h.wr; have h4 := h.ne
  have hlo : ∀ k, some k = bl Ao → w.heap.size ≤ k := fun k hk => h.ow.bl_lo k hk.symm
  obtain ⟨q1, q2, q3⟩ := hr
  have hs : (evA e Ao co).setIfInBounds 18 (.slice A2 (e.over.length + 1) c2) = evA { e with over := e.over ++ [x] } A2 c2 := by
    unfold evA
    simp
  refine ⟨⟨q1.far (p := ⟨X, 18, none⟩) (by show b ≠ X; omega) _, q2.setCell (p := ⟨X, 18, none⟩) (by show b ≤ X; omega) _, q3⟩, hs ▸ hx.set_ 18 _, hz.far (p := ⟨X, 18, none⟩) (by show Rz ≠ X; omega) _, h1, h2, h3, h4, ?_, ?_⟩
  · exact (h.ch.trans hC (fun k hk e => by have := hlo k e; omega)).trans (Ch.set_ W' ⟨X, 18, none⟩ _) (fun k hk e => by have e' : k = X := e; omega)
  · have := ho.far (p := ⟨X, 18, none⟩) (ho.ne_ hx (by decide)) (.slice A2 (e.over.length + 1) c2)
    simpa using this
/-- The flags stay. -/
theorem fl_read {FB k : Nat} {xs : List Value} {B : Nat} (h : Own W B 4 1 (some ⟨FB, 0, none⟩) k k xs) (hc : Ch (fun k => k = b) W W') (hb : b ≠ FB) : Own W' B 4 1 (some ⟨FB, 0, none⟩) k k xs :=
  h.ch hc (fun j _ _ hj e => by simp [bl] at hj; omega)
theorem fl_app {FB k : Nat} {xs : List Value} {B : Nat} (h : Own W B 4 1 (some ⟨FB, 0, none⟩) k k xs) (g : GS w b X Rz W A n c l e Ao co) (hC : Ch (fun k => some k = bl Ao) W W') : Own W' B 4 1 (some ⟨FB, 0, none⟩) k k xs :=
  h.ch hC (fun j _ _ hj e => by
    have hp := h.apart g.ow (by decide)
    exact hp j hj e.symm)
theorem fl_set {FB k : Nat} {xs : List Value} {B : Nat} (h : Own W B 4 1 (some ⟨FB, 0, none⟩) k k xs) (hX : Whole W X 59 (evA e Ao co)) (i : Nat) (v : Value) : Own (W.setCell ⟨X, i, none⟩ v) B 4 1 (some ⟨FB, 0, none⟩) k k xs :=
  h.far (p := ⟨X, i, none⟩) (h.ne_ hX (by decide)) v
theorem fl_cell {FB i : Nat} {fl : List Bool} {B : Nat} (h : Own W B 4 1 (some ⟨FB, 0, none⟩) 5 5 (tv fl)) (v : Bool) (hi : fl[i]? = some v) : W.cell? ⟨FB, i, none⟩ = some (.bool v) := by
  have := h.1.cells (g := FB) rfl i (.bool v) (by simp [tv, hi])
  have e0 : (⟨FB, 0, none⟩ : Addr).add i = ⟨FB, i, none⟩ := by by_cases hj : i = 0 <;> simp [Addr.add, hj]
  rw [e0] at this
  exact this
end
end Go.Proofs.YtpakmeegldgjmaaGreat
/- Layer 20 (event): Get, of an event that was packed. -/
namespace Go.Proofs.YtpakmeegldgjmaaGreat
open Go.RowKit
set_option linter.unusedVariables false
set_option linter.unusedSimpArgs false
set_option maxRecDepth 100000
attribute [local go_sem ↓] Go.wp_at_zero Go.wp_at_succ
attribute [local go_sem] bs_size bs_list bs_nil_list

/-- What Get of an event leaves. -/
def EgE (w : World) (b : Nat) (e : Ed) (R : List UInt8) (r : Ending) (w' : World) : Prop :=
  ∃ A n c Ao co, r = .returned (evV e Ao co) ∧ Re w' b A n c R 0 ∧ Ch (fun k => k = b) w w' ∧ Own w' w.heap.size 50 3 Ao e.over.length co (dts e.over)
theorem gs_new (w : World) (b X : Nat) (W : World) (A : Option Addr) (n c : Nat) (l : List UInt8) (h : Re w b A n c l 0) (hX : Whole W X 59 #[.int .i64 0, .int .i64 0, .int .i64 0, .int .i64 0, .int .i64 0, .int .i64 0, .int .i64 2, .string ⟨#[]⟩, .string ⟨#[]⟩, .string ⟨#[]⟩, .string ⟨#[]⟩, .bool false, .bool false, .bool false, .bool false, .int .i64 0, .int .i64 0, .int .i64 0, .slice none 0 0]) (hXe : X = w.heap.size + 1) (hC : Ch (fun k => k = X) ((w.alloc (.cells zeroE 59)).alloc (.cells zeroE 59)) W) :
    GS w b X w.heap.size W A n c l (⟨((0, 0), 0), (0, 0, 0), 2, [], [], [], [], false, false, false, false, 0, 0, 0, []⟩ : Ed) none 0 := by
  have hlt := h.1.lt
  have hb : Below w.heap.size w ((w.alloc (.cells zeroE 59)).alloc (.cells zeroE 59)) := ((Below.refl _ _).alloc (Nat.le_refl _) _).alloc (by simp) _
  have hr : Re ((w.alloc (.cells zeroE 59)).alloc (.cells zeroE 59)) b A n c l 0 := ⟨h.1.below hb hlt, h.2.1.below (below_of_le hb (Nat.le_of_lt hlt)), h.2.2⟩
  have hz : Whole ((w.alloc (.cells zeroE 59)).alloc (.cells zeroE 59)) w.heap.size 59 zeroE := (Whole.new _ _ _).alloc _
  refine ⟨⟨hr.1.ch hC (by omega), hr.2.1.ch (by simp; omega) hC (fun k hk _ e => by omega), hr.2.2⟩, hX, hz.ch hC (by omega), hlt, by omega, Nat.le_refl _, by omega, ?_, Own.nil_⟩
  exact ((below_ch hb (S := fun k => k = b))).trans hC (fun k hk e => by omega)
theorem GS.many {w W W' : World} {b X Rz n c co : Nat} {A Ao : Option Addr} {l : List UInt8} {e e' : Ed} (h : GS w b X Rz W A n c l e Ao co) (hX : Whole W' X 59 (evA e' Ao co)) (hC : Ch (fun k => k = X) W W') (ho : e'.over = e.over) : GS w b X Rz W' A n c l e' Ao co := by
  have h1 := h.bx; have h2 := h.wx; have h3 := h.wr; have h4 := h.ne
  refine ⟨⟨h.re.1.ch hC (by omega), h.re.2.1.ch (Nat.le_of_lt h.re.1.lt) hC (fun k hk _ e => by omega), h.re.2.2⟩, hX, h.rz.ch hC (fun e => h4 e.symm), h1, h2, h3, h4, h.ch.trans hC (fun k hk e => by omega), ?_⟩
  rw [ho]
  exact h.ow.ch hC (fun k _ _ hk e => h.x_apart (by rw [hk, e]))
theorem ed_put {e : Ed} (hk : e.kind = 1) : ({ kind := 1, dot := e.dot, st := e.st, ho := e.ho, se := e.se, ht := e.ht, pe := e.pe, over := e.over, name := e.name, dom := e.dom, path := e.path, value := e.value, exp := e.exp, cre := e.cre, acc := e.acc } : Ed) = e := by
  cases e
  simp at hk ⊢
  exact hk.symm
theorem ed_rem {e : Ed} (hk : e.kind = 2) (hz : zeroB e = true) : ({ kind := 2, dot := e.dot, st := e.st, ho := e.ho, se := e.se, ht := e.ht, pe := e.pe, over := e.over, name := [], dom := [], path := [], value := [], exp := 0, cre := 0, acc := 0 } : Ed) = e := by
  unfold zeroB at hz
  simp only [Bool.and_eq_true, decide_eq_true_eq] at hz
  cases e
  simp at hk hz ⊢
  simp [hk, hz]
set_option maxHeartbeats 8000000 in
theorem evget_put (e : Ed) (R : List UInt8) (w : World) (b : Nat) (A : Option Addr) (n0 c : Nat) (h : Re w b A n0 c (evP e ++ R) 0) (hq : evB e = true) :
    Calls Tryz.prog 38 #[.pointer (some ⟨b, 0, none⟩)] w (EgE w b e R) := by
  have ok := ev_ok hq
  have hs := ev_short hq
  have hl : evP e ++ R = dotP e.dot.1.1 e.dot.1.2 e.dot.2 ++ (stP e.st.1 e.st.2.1 e.st.2.2 ++ (flB (evF e) :: (vput e.over.length ++ (dsP e.over ++ ((if e.kind = 1 then itP e else []) ++ R))))) := by
    unfold evP evF dP
    simp [List.append_assoc]
  rw [hl] at h
  have CD := Lib.hid (fun W A n c h => dget_put e.dot.1.1 e.dot.1.2 e.dot.2 ok.dot (stP e.st.1 e.st.2.1 e.st.2.2 ++ (flB (evF e) :: (vput e.over.length ++ (dsP e.over ++ ((if e.kind = 1 then itP e else []) ++ R))))) W b A n c h)
  have CS := Lib.hid (fun W A n c h => cget_put e.st.1 e.st.2.1 e.st.2.2 ok.st (flB (evF e) :: (vput e.over.length ++ (dsP e.over ++ ((if e.kind = 1 then itP e else []) ++ R)))) W b A n c h)
  have CF := Lib.hid (fun W A n c h => rflags_own (evF e) (vput e.over.length ++ (dsP e.over ++ ((if e.kind = 1 then itP e else []) ++ R))) W b A n c 5 h rfl)
  have CN := Lib.hid (fun (W : World) A n c (h : Re W b A n c (vput e.over.length ++ (dsP e.over ++ ((if e.kind = 1 then itP e else []) ++ R))) 0) => by have := rnum_any W b A n c _ 0 64 h; rw [rnumR_putx _ ok.over (by have := ok.over; omega)] at this; exact this)
  rw [show ((5 : Nat) : Int) = 5 from rfl] at CF
  have HO := Lib.hid ok.over
  have HLn := Lib.hid (show e.over.length = e.over.length from rfl)
  rw [show ((64 : Nat) : Int) = 64 from rfl] at CN
  have CE := Lib.hid (fun (W : World) (A : Option Addr) (n c : Nat) (l : List UInt8) (h : Re W b A n c l 0) => rerr_any W b A n c l 0 h)
  have CX := Lib.hid (fun (x : Dt) (hq : dotB x.1.1 x.1.2 x.2 = true) (R : List UInt8) (W : World) (A : Option Addr) (n c : Nat) (h : Re W b A n c (dP x ++ R) 0) => dget_put x.1.1 x.1.2 x.2 hq R W b A n c h)
  have CI := Lib.hid (fun (e1 : Ed) (X Rz : Nat) (W : World) (A : Option Addr) (n c : Nat) (Ao : Option Addr) (co : Nat) (h : GS w b X Rz W A n c (itP e ++ R) e1 Ao co) (hk : e.kind = 1) => evitem_any e e1 R w b X Rz W A n c Ao co h ok hk)
  have CR := Lib.hid (fun (Ao : Option Addr) (co : Nat) (W : World) (hm : MsAt W Ao e.over) => show Calls Tryz.prog 43 #[.agg (evA e Ao co)] W (fun r w' => r = .returned (.bool true) ∧ Below W.heap.size W w') from hq ▸ evright_any e Ao co W hm hs)
  have HG0 := Lib.hid (fun X W => gs_new w b X W A n0 c _ h)
  have HX0 := Lib.hid (Whole.new (w.alloc (.cells zeroE 59)) 59 zeroE)
  have hQ := Lib.hid hq
  unfold zeroE at HX0 HG0
  unfold dotV at CD CX
  unfold stV at CS
  clear hl h hq
  rw [show (w.alloc (.cells #[.int .i64 0, .int .i64 0, .int .i64 0, .int .i64 0, .int .i64 0, .int .i64 0, .int .i64 0, .string ⟨#[]⟩, .string ⟨#[]⟩, .string ⟨#[]⟩, .string ⟨#[]⟩, .bool false, .bool false, .bool false, .bool false, .int .i64 0, .int .i64 0, .int .i64 0, .slice none 0 0] 59)).heap.size = w.heap.size + 1 by simp] at HX0
  go_enter Tryz.func38, Tryz.ntmps38
  go_wp2_with (refine st_whole (by rfl) _ _ rfl rfl rfl HX0.out (by rfl) (by kernel_rfl) (by rfl) ?_; intro W2 hX2 hC2 hz2; have G1 := Lib.hid (HG0.out _ W2 hX2 rfl hC2); clear hX2 hC2 hz2)
  refine (CD.out _ _ _ _ G1.out.re).mono ?_; rintro r w3 ⟨A3, n3, c3, rfl, hr3, hc3⟩
  have G2 := Lib.hid (G1.out.read hr3 hc3)
  clear hr3 hc3 G1
  go_wp2_with (refine st_mid (o := 0) (by rfl) _ _ rfl rfl rfl G2.out.ev (by show 0 + 3 ≤ 19; omega) (by kernel_rfl) (by rfl) ?_; intro W4 hX4 hC4 hz4; have G3 := Lib.hid (G2.out.many (e' := (⟨e.dot, (0, 0, 0), 2, [], [], [], [], false, false, false, false, 0, 0, 0, []⟩ : Ed)) hX4 hC4 rfl); clear hX4 hC4 hz4)
  refine (CS.out _ _ _ _ G3.out.re).mono ?_; rintro r w5 ⟨A5, n5, c5, rfl, hr5, hc5⟩
  have G4 := Lib.hid (G3.out.read hr5 hc5)
  clear hr5 hc5 G3 G2
  go_wp2_with (refine st_mid (o := 3) (by rfl) _ _ rfl rfl rfl G4.out.ev (by show 3 + 3 ≤ 19; omega) (by kernel_rfl) (by rfl) ?_; intro W6 hX6 hC6 hz6; have G5 := Lib.hid (G4.out.many (e' := (⟨e.dot, e.st, 2, [], [], [], [], false, false, false, false, 0, 0, 0, []⟩ : Ed)) hX6 hC6 rfl); clear hX6 hC6 hz6)
  refine (CF.out _ _ _ _ G5.out.re).mono ?_; rintro r w7 ⟨A7, n7, c7, rfl, hr7, hF7, hc7⟩
  have G6 := Lib.hid (G5.out.read hr7 hc7)
  have HFB := Lib.hid (show b < W6.heap.size from G5.out.re.1.lt)
  generalize W6.heap.size = FB at *
  have F6 := Lib.hid hF7
  clear hr7 hc7 hF7 G5 G4
  go_wp2_with fail
  refine (CN.out _ _ _ _ G6.out.re).mono ?_; rintro r w8 ⟨A8, n8, c8, rfl, hr8, hc8⟩
  have G7 := Lib.hid (G6.out.read hr8 hc8)
  have F7 := Lib.hid (fl_read F6.out hc8 (by have := HFB.out; omega))
  clear hr8 hc8 G6 F6
  have HKD := Lib.hid (And.intro ok.kind hQ.out)
  have CX2 := Lib.hid (fun (x : Dt) (hx : x ∈ e.over) => CX.out x (ok.rights x hx))
  have hn64 : e.over.length ≤ 64 := HO.out
  clear CX ok hs
  generalize hlen : e.over.length = n at *
  have HLn := Lib.hid hlen
  clear hlen
  go_wp2_with fail
  go_loopw [5] (fun i wr => ∃ (j : Nat) (A2 : Option Addr) (n2 c2 : Nat) (Ao : Option Addr) (co : Nat), j ≤ n ∧ i = .int .u64 ((n - j : Nat) : Int) ∧ GS w b (w.heap.size + 1) w.heap.size wr A2 n2 c2 (dsP (e.over.drop j) ++ ((if e.kind = 1 then itP e else []) ++ R)) (⟨e.dot, e.st, 2, [], [], [], [], false, false, false, false, 0, 0, 0, e.over.take j⟩ : Ed) Ao co ∧ Own wr FB 4 1 (some ⟨FB, 0, none⟩) 5 5 (tv (List.take 5 (evF e)))) (fun i _ => (intOf i).toNat)
  case atStart => exact ⟨0, A8, n8, c8, none, 0, by omega, rfl, G7.out, F7.out⟩
  case round =>
    obtain ⟨j, A2, n2, c2, Ao, co, hj, rfl, hG, hF⟩ := hrel
    have G8 := Lib.hid hG
    have F8 := Lib.hid hF
    clear hG hF G7 F7
    by_cases hlt : j < n
    · obtain ⟨x, hx⟩ : ∃ x, e.over[j]? = some x := ⟨e.over[j]'(by have := HLn.out; omega), List.getElem?_eq_getElem _⟩
      obtain ⟨m, hm⟩ : ∃ m, n - j = m + 1 := ⟨n - j - 1, by omega⟩
      rw [hm]
      have hm2 : n - (j + 1) = m := by omega
      have hm3 : m < 18446744073709551615 := by omega
      have HM2 := Lib.hid hm2
      clear hm2 hm
      have hdr := dsP_drop hx
      have htk := Lib.hid (show e.over.take (j + 1) = e.over.take j ++ [x] by rw [List.take_add_one, hx]; rfl)
      have hlj := Lib.hid (show (e.over.take j).length = j by rw [List.length_take]; have := HLn.out; omega)
      have hg := G8.out
      rw [hdr, List.append_assoc] at hg
      have G8 := Lib.hid hg
      have CXj := Lib.hid (CX2.out x (List.mem_of_getElem? hx))
      clear hg hdr hx
      have hm1 : (0 : Int) < ((m + 1 : Nat) : Int) := by omega
      go_wp2_with fail
      refine (CE.out _ _ _ _ _ G8.out.re).mono ?_; rintro r w9 ⟨rfl, rfl⟩
      go_wp2_with fail
      have c18 : wr.cell? ⟨w.heap.size + 1, 18, none⟩ = some (.slice Ao j co) := by rw [G8.out.ev.cell]; show some (Value.slice Ao (e.over.take j).length co) = _; rw [hlj.out]
      have hbX := Lib.hid (show b ≠ w.heap.size + 1 by have := G8.out.bx; omega)
      refine wp_region_held_drew (S := (fun _ => True)) (by kernel_rfl) ?_ (fun hHeld => ?_)
      · (try dsimp only); skip
      refine wpAnyH_take (i := 0) (v := ?_) rfl (by kernel_rfl) (by kernel_rfl) (by kernel_rfl) (fun _ _ _ h => h) (Or.inl ⟨by rfl, ?_⟩) (by assumption) ?_
      rotate_left
      first | (focus ((intro w hSw; (try dsimp only at hSw); go_simp); (try with_reducible rfl); done)) | fail
      try simp only [Act.put, List.getElem_toArray, List.getElem_cons_zero, List.setIfInBounds_toArray, List.set_cons_zero, List.set_cons_succ]
      refine wpAnyH_take (i := 2) (v := ?_) rfl (by kernel_rfl) (by kernel_rfl) (by kernel_rfl) (fun _ _ _ h => h) (Or.inl ⟨by rfl, ?_⟩) (by assumption) ?_
      rotate_left
      first | (focus ((intro w hSw; (try dsimp only at hSw); go_simp); (try with_reducible rfl); done)) | fail
      try simp only [Act.put, List.getElem_toArray, List.getElem_cons_zero, List.getElem_cons_succ, List.setIfInBounds_toArray, List.set_cons_zero, List.set_cons_succ]
      refine wpAnyH_ready (rs := [1, 3]) (by kernel_rfl) (by simp) ?_
      refine AllReadyH.cons rfl (fun K hK => ?_) (AllReadyH.cons rfl (fun K hK => ?_) AllReadyH.nil)
      go_simp
      refine hK.out _ _ ?_ (fun hHeld => ?_)
      · (try dsimp only); skip
      clear hK K
      try simp only [Act.put, List.getElem_toArray, List.getElem_cons_zero, List.getElem_cons_succ, List.setIfInBounds_toArray, List.set_cons_zero, List.set_cons_succ]
      refine wpAnyH_ready (rs := [3]) (by kernel_rfl) (by simp) ?_
      refine AllReadyH.cons rfl (fun K hK => ?_) AllReadyH.nil
      go_simp
      refine (CXj.out _ _ _ _ _ (G8.out.low (Below.refl _ _).drew).re).mono ?_; rintro r w5 ⟨A5, n5, c5, rfl, hr5, hc5⟩
      go_wp2_with fail
      refine hK.out _ _ ?_ (fun hHeld => ?_)
      · (try dsimp only); skip
      clear hK K
      try simp only [Act.put, List.getElem_toArray, List.getElem_cons_zero, List.getElem_cons_succ, List.setIfInBounds_toArray, List.set_cons_zero, List.set_cons_succ]
      refine wpAnyH_ready (rs := [4]) (by kernel_rfl) (by simp) ?_
      refine AllReadyH.cons rfl (fun K hK => ?_) AllReadyH.nil
      go_simp
      refine hK.out _ _ ?_ (fun hHeld => ?_)
      · (try dsimp only); skip
      clear hK K
      try simp only [Act.put, List.getElem_toArray, List.getElem_cons_zero, List.getElem_cons_succ, List.setIfInBounds_toArray, List.set_cons_zero, List.set_cons_succ]
      rotate_left
      go_simp
      refine (CXj.out _ _ _ _ _ (G8.out.low (Below.refl _ _).drew).re).mono ?_; rintro r w5 ⟨A5, n5, c5, rfl, hr5, hc5⟩
      go_wp2_with fail
      refine hK.out _ _ ?_ (fun hHeld => ?_)
      · (try dsimp only); skip
      clear hK K
      try simp only [Act.put, List.getElem_toArray, List.getElem_cons_zero, List.getElem_cons_succ, List.setIfInBounds_toArray, List.set_cons_zero, List.set_cons_succ]
      have c15 : w5.cell? ⟨w.heap.size + 1, 18, none⟩ = some (.slice Ao j co) := (hc5.cell (p := ⟨w.heap.size + 1, 18, none⟩) G8.out.ev.lt (fun e => hbX.out e.symm)).trans c18
      refine wpAnyH_ready (rs := [1, 4]) (by kernel_rfl) (by simp) ?_
      refine AllReadyH.cons rfl (fun K hK => ?_) (AllReadyH.cons rfl (fun K hK => ?_) AllReadyH.nil)
      go_simp
      refine hK.out _ _ ?_ (fun hHeld => ?_)
      · (try dsimp only); skip
      clear hK K
      try simp only [Act.put, List.getElem_toArray, List.getElem_cons_zero, List.getElem_cons_succ, List.setIfInBounds_toArray, List.set_cons_zero, List.set_cons_succ]
      refine wpAnyH_ready (rs := [4]) (by kernel_rfl) (by simp) ?_
      refine AllReadyH.cons rfl (fun K hK => ?_) AllReadyH.nil
      go_simp
      refine hK.out _ _ ?_ (fun hHeld => ?_)
      · (try dsimp only); skip
      clear hK K
      try simp only [Act.put, List.getElem_toArray, List.getElem_cons_zero, List.getElem_cons_succ, List.setIfInBounds_toArray, List.set_cons_zero, List.set_cons_succ]
      rotate_left
      have c16 := (World.cell?_alloc_some w5 ⟨w.heap.size + 1, 18, none⟩ (.cells #[.int .i64 x.1.1, .int .i64 x.1.2, .int .i64 x.2] 50) (by rw [c15]; rfl)).trans c15
      go_simp
      refine hK.out _ _ ?_ (fun hHeld => ?_)
      · (try dsimp only); skip
      clear hK K
      try simp only [Act.put, List.getElem_toArray, List.getElem_cons_zero, List.getElem_cons_succ, List.setIfInBounds_toArray, List.set_cons_zero, List.set_cons_succ]
      refine wpAnyH_ready (rs := [1]) (by kernel_rfl) (by simp) ?_
      refine AllReadyH.cons rfl (fun K hK => ?_) AllReadyH.nil
      go_simp
      refine hK.out _ _ ?_ (fun hHeld => ?_)
      · (try dsimp only); skip
      clear hK K
      try simp only [Act.put, List.getElem_toArray, List.getElem_cons_zero, List.getElem_cons_succ, List.setIfInBounds_toArray, List.set_cons_zero, List.set_cons_succ]
      all_goals
        have G9 := Lib.hid ((G8.out.low (Below.refl _ _).drew).read hr5 hc5)
        have F9 := Lib.hid (fl_read F8.out.drew hc5 (by have := HFB.out; omega))
        clear hr5 hc5
        obtain ⟨A6, c6, w6, q6, o6, gr6, b6, nr6⟩ := app1n w5 w.heap.size Ao j co (e.over.take j) hlj.out (by have := G9.out.ow; rw [hlj.out] at this; exact this) x (by omega) (by have := G9.out.ev.lt; omega)
        have c7 : w6.cell? ⟨w.heap.size + 1, 18, none⟩ = some (.slice Ao j co) := by rw [(G9.out.mid gr6).2.1.cell]; show some (Value.slice Ao (e.over.take j).length co) = _; rw [hlj.out]
        have f7 : w6.frozen? ⟨w.heap.size + 1, 18, none⟩ = false := (G9.out.mid gr6).2.1.free 18
        have G10 := Lib.hid (show GS w b (w.heap.size + 1) w.heap.size (w6.setCell ⟨w.heap.size + 1, 18, none⟩ (.slice A6 (j + 1) c6)) A5 n5 c5 (dsP (List.drop (j + 1) e.over) ++ ((if e.kind = 1 then itP e else []) ++ R)) (⟨e.dot, e.st, 2, [], [], [], [], false, false, false, false, 0, 0, 0, e.over.take (j + 1)⟩ : Ed) A6 c6 from by
          have h := G9.out.app (A2 := A6) (c2 := c6) (x := x) gr6 (by show Own w6 w.heap.size _ 3 A6 ((e.over.take j).length + 1) c6 _; rw [hlj.out]; exact o6)
          rw [show (⟨e.dot, e.st, 2, [], [], [], [], false, false, false, false, 0, 0, 0, e.over.take j⟩ : Ed).over.length = j from hlj.out] at h
          rw [htk.out]
          exact h)
        have F10 := Lib.hid (fl_set (fl_app F9.out G9.out gr6) (G9.out.mid gr6).2.1 18 (.slice A6 (j + 1) c6))
        clear gr6 o6 b6 nr6
        refine wpAnyH_ready (rs := [5]) (by kernel_rfl) (by simp) ?_
        refine AllReadyH.cons rfl (fun K hK => ?_) AllReadyH.nil
        refine step_append_run (by rfl) (.tmp 27) (.tmp 30) _ _ (by rfl) _ _ (by rfl) (by rfl) _ _ q6 ?_
        refine hK.out _ _ ?_ (fun hHeld => ?_)
        · (try dsimp only); skip
        clear hK K
        try simp only [Act.put, List.getElem_toArray, List.getElem_cons_zero, List.getElem_cons_succ, List.setIfInBounds_toArray, List.set_cons_zero, List.set_cons_succ]
        refine wpAnyH_take (i := 6) (v := ?_) rfl (by kernel_rfl) (by kernel_rfl) (by kernel_rfl) (fun _ _ _ h => h) (Or.inl ⟨by rfl, ?_⟩) (by assumption) ?_
        rotate_left
        first | (focus ((intro w hSw; (try dsimp only at hSw); go_simp); (try with_reducible rfl); done)) | fail
        try simp only [Act.put, List.getElem_toArray, List.getElem_cons_zero, List.getElem_cons_succ, List.setIfInBounds_toArray, List.set_cons_zero, List.set_cons_succ]
        refine wpAnyH_ready (rs := [7]) (by kernel_rfl) (by simp) ?_
        refine AllReadyH.cons rfl (fun K hK => ?_) AllReadyH.nil
        go_simp
        refine hK.out _ _ ?_ (fun hHeld => ?_)
        · (try dsimp only); skip
        clear hK K
        try simp only [Act.put, List.getElem_toArray, List.getElem_cons_zero, List.getElem_cons_succ, List.setIfInBounds_toArray, List.set_cons_zero, List.set_cons_succ]
        refine wpAnyH_done (by kernel_rfl) ?_ _
        go_wp2
        go_roundw
        case rel =>
          exact ⟨j + 1, A5, n5, c5, A6, c6, by omega, by rw [HM2.out], G10.out, F10.out⟩
        case measure => simp only [intOf]; omega
    · have hj' : n = j := by omega
      subst hj'
      have hz0 : n - n = 0 := by omega
      have hg := G8.out
      have htk : e.over.take n = e.over := List.take_of_length_le (by have := HLn.out; omega)
      rw [htk, List.drop_of_length_le (by have := HLn.out; omega)] at hg
      have G9 := Lib.hid (show GS w b (w.heap.size + 1) w.heap.size wr A2 n2 c2 ((if e.kind = 1 then itP e else []) ++ R) (⟨e.dot, e.st, 2, [], [], [], [], false, false, false, false, 0, 0, 0, e.over⟩ : Ed) Ao co from by simpa [dsP] using hg)
      clear hg htk G8
      rw [hz0]
      have F9 := Lib.hid (show Own wr FB 4 1 (some ⟨FB, 0, none⟩) 5 5 (tv (evF e)) from F8.out)
      clear F8 hz0
      go_wp2_with fail
      have hFX := Lib.hid (show FB ≠ w.heap.size + 1 by have := F9.out.ne_ G9.out.ev (by decide); rw [ownBlock_bl] at this; exact fun e => this (by rw [← e]; rfl))
      have hFBl := Lib.hid (show FB < wr.heap.size from (F9.out.block_lt FB rfl).2)
      have q0 := fl_cell (i := 0) F9.out (decide (e.kind = 1)) rfl
      have q1 := fl_cell (i := 1) F9.out e.ho rfl
      have q2 := fl_cell (i := 2) F9.out e.se rfl
      have q3 := fl_cell (i := 3) F9.out e.ht rfl
      have q4 := fl_cell (i := 4) F9.out e.pe rfl
      have Q0 := Lib.hid q0
      have Q := Lib.hid (And.intro q1 (And.intro q2 (And.intro q3 q4)))
      clear q0 q1 q2 q3 q4
      have c11 := G9.out.ev.cell 11
      have c11 : wr.cell? ⟨w.heap.size + 1, 11, none⟩ = some (.bool false) := c11
      have f11 := G9.out.ev.free 11
      have c12 := G9.out.ev.cell 12
      have c12 : wr.cell? ⟨w.heap.size + 1, 12, none⟩ = some (.bool false) := c12
      have f12 := G9.out.ev.free 12
      have c13 := G9.out.ev.cell 13
      have c13 : wr.cell? ⟨w.heap.size + 1, 13, none⟩ = some (.bool false) := c13
      have f13 := G9.out.ev.free 13
      have c14 := G9.out.ev.cell 14
      have c14 : wr.cell? ⟨w.heap.size + 1, 14, none⟩ = some (.bool false) := c14
      have f14 := G9.out.ev.free 14
      refine wp_region_held_drew (S := (fun W => W.cell? ⟨FB, 1, none⟩ = some (.bool e.ho) ∧ W.cell? ⟨FB, 2, none⟩ = some (.bool e.se) ∧ W.cell? ⟨FB, 3, none⟩ = some (.bool e.ht) ∧ W.cell? ⟨FB, 4, none⟩ = some (.bool e.pe))) (by kernel_rfl) ?_ (fun hHeld => ?_)
      · (try dsimp only); exact Q.out
      refine wpAnyH_take (i := 0) (v := ?_) rfl (by kernel_rfl) (by kernel_rfl) (by kernel_rfl) (fun _ _ _ h => h) (Or.inl ⟨by rfl, ?_⟩) (by assumption) ?_
      rotate_left
      first | (focus ((intro w hSw; (try dsimp only at hSw); go_simp); (try with_reducible rfl); done)) | fail
      try simp only [Act.put, List.getElem_toArray, List.getElem_cons_zero, List.setIfInBounds_toArray, List.set_cons_zero, List.set_cons_succ]
      refine wpAnyH_take (i := 1) (v := ?_) rfl (by kernel_rfl) (by kernel_rfl) (by kernel_rfl) (fun _ _ _ h => h) (Or.inl ⟨by rfl, ?_⟩) (by assumption) ?_
      rotate_left
      first | (focus ((intro w hSw; (try dsimp only at hSw); go_simp); (try with_reducible rfl); done)) | fail
      try simp only [Act.put, List.getElem_toArray, List.getElem_cons_zero, List.getElem_cons_succ, List.setIfInBounds_toArray, List.set_cons_zero, List.set_cons_succ]
      refine wpAnyH_take (i := 2) (v := ?_) rfl (by kernel_rfl) (by kernel_rfl) (by kernel_rfl) (fun _ _ _ h => h) (Or.inl ⟨by rfl, ?_⟩) (by assumption) ?_
      rotate_left
      first | (focus ((intro w hSw; (try dsimp only at hSw); go_simp); (try with_reducible rfl); done)) | fail
      try simp only [Act.put, List.getElem_toArray, List.getElem_cons_zero, List.getElem_cons_succ, List.setIfInBounds_toArray, List.set_cons_zero, List.set_cons_succ]
      refine wpAnyH_take (i := 3) (v := ?_) rfl (by kernel_rfl) (by kernel_rfl) (by kernel_rfl) (fun _ _ _ h => h) (Or.inl ⟨by rfl, ?_⟩) (by assumption) ?_
      rotate_left
      first | (focus ((intro w hSw; (try dsimp only at hSw); go_simp); (try with_reducible rfl); done)) | fail
      try simp only [Act.put, List.getElem_toArray, List.getElem_cons_zero, List.getElem_cons_succ, List.setIfInBounds_toArray, List.set_cons_zero, List.set_cons_succ]
      refine wpAnyH_take (i := 4) (v := ?_) rfl (by kernel_rfl) (by kernel_rfl) (by kernel_rfl) (fun _ _ _ h => h) (Or.inl ⟨by rfl, ?_⟩) (by assumption) ?_
      rotate_left
      first | (focus ((intro w hSw; (try dsimp only at hSw); go_simp); (try with_reducible rfl); done)) | fail
      try simp only [Act.put, List.getElem_toArray, List.getElem_cons_zero, List.getElem_cons_succ, List.setIfInBounds_toArray, List.set_cons_zero, List.set_cons_succ]
      refine wpAnyH_take (i := 5) (v := ?_) rfl (by kernel_rfl) (by kernel_rfl) (by kernel_rfl) (fun _ _ _ h => h) (Or.inl ⟨by rfl, ?_⟩) (by assumption) ?_
      rotate_left
      first | (focus ((intro w hSw; (try dsimp only at hSw); go_simp); (try with_reducible rfl); done)) | fail
      try simp only [Act.put, List.getElem_toArray, List.getElem_cons_zero, List.getElem_cons_succ, List.setIfInBounds_toArray, List.set_cons_zero, List.set_cons_succ]
      refine wpAnyH_take (i := 6) (v := ?_) rfl (by kernel_rfl) (by kernel_rfl) (by kernel_rfl) (fun _ _ _ h => h) (Or.inl ⟨by rfl, ?_⟩) (by assumption) ?_
      rotate_left
      first | (focus ((intro w hSw; (try dsimp only at hSw); go_simp); (try with_reducible rfl); done)) | fail
      try simp only [Act.put, List.getElem_toArray, List.getElem_cons_zero, List.getElem_cons_succ, List.setIfInBounds_toArray, List.set_cons_zero, List.set_cons_succ]
      refine wpAnyH_take (i := 7) (v := ?_) rfl (by kernel_rfl) (by kernel_rfl) (by kernel_rfl) (fun _ _ _ h => h) (Or.inl ⟨by rfl, ?_⟩) (by assumption) ?_
      rotate_left
      first | (focus ((intro w hSw; (try dsimp only at hSw); go_simp); (try with_reducible rfl); done)) | fail
      try simp only [Act.put, List.getElem_toArray, List.getElem_cons_zero, List.getElem_cons_succ, List.setIfInBounds_toArray, List.set_cons_zero, List.set_cons_succ]
      refine wpAnyH_take (i := 8) (v := ?_) rfl (by kernel_rfl) (by kernel_rfl) (by kernel_rfl) (fun _ _ _ h => h) (Or.inl ⟨by rfl, ?_⟩) (by assumption) ?_
      rotate_left
      first | (focus ((intro w hSw; (try dsimp only at hSw); go_simp); (try with_reducible rfl); done)) | fail
      try simp only [Act.put, List.getElem_toArray, List.getElem_cons_zero, List.getElem_cons_succ, List.setIfInBounds_toArray, List.set_cons_zero, List.set_cons_succ]
      refine wpAnyH_take (i := 9) (v := ?_) rfl (by kernel_rfl) (by kernel_rfl) (by kernel_rfl) (fun _ _ _ h => h) (Or.inl ⟨by rfl, ?_⟩) (by assumption) ?_
      rotate_left
      first | (focus ((intro w hSw; (try dsimp only at hSw); go_simp); (try with_reducible rfl); done)) | fail
      try simp only [Act.put, List.getElem_toArray, List.getElem_cons_zero, List.getElem_cons_succ, List.setIfInBounds_toArray, List.set_cons_zero, List.set_cons_succ]
      refine wpAnyH_take (i := 10) (v := ?_) rfl (by kernel_rfl) (by kernel_rfl) (by kernel_rfl) (fun _ _ _ h => h) (Or.inl ⟨by rfl, ?_⟩) (by assumption) ?_
      rotate_left
      first | (focus ((intro w hSw; (try dsimp only at hSw); go_simp); (try with_reducible rfl); done)) | fail
      try simp only [Act.put, List.getElem_toArray, List.getElem_cons_zero, List.getElem_cons_succ, List.setIfInBounds_toArray, List.set_cons_zero, List.set_cons_succ]
      refine wpAnyH_take (i := 11) (v := ?_) rfl (by kernel_rfl) (by kernel_rfl) (by kernel_rfl) (fun _ _ _ h => h) (Or.inl ⟨by rfl, ?_⟩) (by assumption) ?_
      rotate_left
      first | (focus ((intro w hSw; (try dsimp only at hSw); go_simp); (try with_reducible rfl); done)) | fail
      try simp only [Act.put, List.getElem_toArray, List.getElem_cons_zero, List.getElem_cons_succ, List.setIfInBounds_toArray, List.set_cons_zero, List.set_cons_succ]
      refine wpAnyH_take (i := 12) (v := ?_) rfl (by kernel_rfl) (by kernel_rfl) (by kernel_rfl) (fun _ _ _ h => h) (Or.inl ⟨by rfl, ?_⟩) (by assumption) ?_
      rotate_left
      first | (focus ((intro w hSw; (try dsimp only at hSw); go_simp); (try with_reducible rfl); done)) | fail
      try simp only [Act.put, List.getElem_toArray, List.getElem_cons_zero, List.getElem_cons_succ, List.setIfInBounds_toArray, List.set_cons_zero, List.set_cons_succ]
      refine wpAnyH_take (i := 13) (v := ?_) rfl (by kernel_rfl) (by kernel_rfl) (by kernel_rfl) (fun _ _ _ h => h) (Or.inl ⟨by rfl, ?_⟩) (by assumption) ?_
      rotate_left
      first | (focus ((intro w hSw; (try dsimp only at hSw); go_simp); (try with_reducible rfl); done)) | fail
      try simp only [Act.put, List.getElem_toArray, List.getElem_cons_zero, List.getElem_cons_succ, List.setIfInBounds_toArray, List.set_cons_zero, List.set_cons_succ]
      refine wpAnyH_ready (rs := [14]) (by kernel_rfl) (by simp) ?_
      refine AllReadyH.cons rfl (fun K hK => ?_) AllReadyH.nil
      go_simp
      refine hK.out _ _ ?_ (fun hHeld => ?_)
      · (try dsimp only); exact ⟨((Ch.set_ _ _ _).cell (p := ⟨FB, 1, none⟩) (by first | exact hFBl.out | (simp; exact hFBl.out)) hFX.out).trans hHeld.1, ((Ch.set_ _ _ _).cell (p := ⟨FB, 2, none⟩) (by first | exact hFBl.out | (simp; exact hFBl.out)) hFX.out).trans hHeld.2.1, ((Ch.set_ _ _ _).cell (p := ⟨FB, 3, none⟩) (by first | exact hFBl.out | (simp; exact hFBl.out)) hFX.out).trans hHeld.2.2.1, ((Ch.set_ _ _ _).cell (p := ⟨FB, 4, none⟩) (by first | exact hFBl.out | (simp; exact hFBl.out)) hFX.out).trans hHeld.2.2.2⟩
      clear hK K
      try simp only [Act.put, List.getElem_toArray, List.getElem_cons_zero, List.getElem_cons_succ, List.setIfInBounds_toArray, List.set_cons_zero, List.set_cons_succ]
      refine wpAnyH_take (i := 15) (v := ?_) rfl (by kernel_rfl) (by kernel_rfl) (by kernel_rfl) (fun _ _ _ h => h) (Or.inl ⟨by rfl, ?_⟩) (by assumption) ?_
      rotate_left
      first | (focus ((intro w hSw; (try dsimp only at hSw); go_simp); (try with_reducible rfl); done)) | fail
      try simp only [Act.put, List.getElem_toArray, List.getElem_cons_zero, List.getElem_cons_succ, List.setIfInBounds_toArray, List.set_cons_zero, List.set_cons_succ]
      refine wpAnyH_take (i := 16) (v := ?_) rfl (by kernel_rfl) (by kernel_rfl) (by kernel_rfl) (fun _ _ _ h => h) (Or.inl ⟨by rfl, ?_⟩) (by assumption) ?_
      rotate_left
      first | (focus ((intro w hSw; (try dsimp only at hSw); go_simp); (try with_reducible rfl); done)) | fail
      try simp only [Act.put, List.getElem_toArray, List.getElem_cons_zero, List.getElem_cons_succ, List.setIfInBounds_toArray, List.set_cons_zero, List.set_cons_succ]
      refine wpAnyH_ready (rs := [17]) (by kernel_rfl) (by simp) ?_
      refine AllReadyH.cons rfl (fun K hK => ?_) AllReadyH.nil
      go_simp
      refine hK.out _ _ ?_ (fun hHeld => ?_)
      · (try dsimp only); exact ⟨((Ch.set_ _ _ _).cell (p := ⟨FB, 1, none⟩) (by first | exact hFBl.out | (simp; exact hFBl.out)) hFX.out).trans hHeld.1, ((Ch.set_ _ _ _).cell (p := ⟨FB, 2, none⟩) (by first | exact hFBl.out | (simp; exact hFBl.out)) hFX.out).trans hHeld.2.1, ((Ch.set_ _ _ _).cell (p := ⟨FB, 3, none⟩) (by first | exact hFBl.out | (simp; exact hFBl.out)) hFX.out).trans hHeld.2.2.1, ((Ch.set_ _ _ _).cell (p := ⟨FB, 4, none⟩) (by first | exact hFBl.out | (simp; exact hFBl.out)) hFX.out).trans hHeld.2.2.2⟩
      clear hK K
      try simp only [Act.put, List.getElem_toArray, List.getElem_cons_zero, List.getElem_cons_succ, List.setIfInBounds_toArray, List.set_cons_zero, List.set_cons_succ]
      refine wpAnyH_take (i := 18) (v := ?_) rfl (by kernel_rfl) (by kernel_rfl) (by kernel_rfl) (fun _ _ _ h => h) (Or.inl ⟨by rfl, ?_⟩) (by assumption) ?_
      rotate_left
      first | (focus ((intro w hSw; (try dsimp only at hSw); go_simp); (try with_reducible rfl); done)) | fail
      try simp only [Act.put, List.getElem_toArray, List.getElem_cons_zero, List.getElem_cons_succ, List.setIfInBounds_toArray, List.set_cons_zero, List.set_cons_succ]
      refine wpAnyH_take (i := 19) (v := ?_) rfl (by kernel_rfl) (by kernel_rfl) (by kernel_rfl) (fun _ _ _ h => h) (Or.inl ⟨by rfl, ?_⟩) (by assumption) ?_
      rotate_left
      first | (focus ((intro w hSw; (try dsimp only at hSw); go_simp); (try with_reducible rfl); done)) | fail
      try simp only [Act.put, List.getElem_toArray, List.getElem_cons_zero, List.getElem_cons_succ, List.setIfInBounds_toArray, List.set_cons_zero, List.set_cons_succ]
      refine wpAnyH_ready (rs := [20]) (by kernel_rfl) (by simp) ?_
      refine AllReadyH.cons rfl (fun K hK => ?_) AllReadyH.nil
      go_simp
      refine hK.out _ _ ?_ (fun hHeld => ?_)
      · (try dsimp only); exact ⟨((Ch.set_ _ _ _).cell (p := ⟨FB, 1, none⟩) (by first | exact hFBl.out | (simp; exact hFBl.out)) hFX.out).trans hHeld.1, ((Ch.set_ _ _ _).cell (p := ⟨FB, 2, none⟩) (by first | exact hFBl.out | (simp; exact hFBl.out)) hFX.out).trans hHeld.2.1, ((Ch.set_ _ _ _).cell (p := ⟨FB, 3, none⟩) (by first | exact hFBl.out | (simp; exact hFBl.out)) hFX.out).trans hHeld.2.2.1, ((Ch.set_ _ _ _).cell (p := ⟨FB, 4, none⟩) (by first | exact hFBl.out | (simp; exact hFBl.out)) hFX.out).trans hHeld.2.2.2⟩
      clear hK K
      try simp only [Act.put, List.getElem_toArray, List.getElem_cons_zero, List.getElem_cons_succ, List.setIfInBounds_toArray, List.set_cons_zero, List.set_cons_succ]
      refine wpAnyH_take (i := 21) (v := ?_) rfl (by kernel_rfl) (by kernel_rfl) (by kernel_rfl) (fun _ _ _ h => h) (Or.inl ⟨by rfl, ?_⟩) (by assumption) ?_
      rotate_left
      first | (focus ((intro w hSw; (try dsimp only at hSw); go_simp); (try with_reducible rfl); done)) | fail
      try simp only [Act.put, List.getElem_toArray, List.getElem_cons_zero, List.getElem_cons_succ, List.setIfInBounds_toArray, List.set_cons_zero, List.set_cons_succ]
      refine wpAnyH_take (i := 22) (v := ?_) rfl (by kernel_rfl) (by kernel_rfl) (by kernel_rfl) (fun _ _ _ h => h) (Or.inl ⟨by rfl, ?_⟩) (by assumption) ?_
      rotate_left
      first | (focus ((intro w hSw; (try dsimp only at hSw); go_simp); (try with_reducible rfl); done)) | fail
      try simp only [Act.put, List.getElem_toArray, List.getElem_cons_zero, List.getElem_cons_succ, List.setIfInBounds_toArray, List.set_cons_zero, List.set_cons_succ]
      refine wpAnyH_ready (rs := [23]) (by kernel_rfl) (by simp) ?_
      refine AllReadyH.cons rfl (fun K hK => ?_) AllReadyH.nil
      go_simp
      refine hK.out _ _ ?_ (fun hHeld => ?_)
      · (try dsimp only); exact ⟨((Ch.set_ _ _ _).cell (p := ⟨FB, 1, none⟩) (by first | exact hFBl.out | (simp; exact hFBl.out)) hFX.out).trans hHeld.1, ((Ch.set_ _ _ _).cell (p := ⟨FB, 2, none⟩) (by first | exact hFBl.out | (simp; exact hFBl.out)) hFX.out).trans hHeld.2.1, ((Ch.set_ _ _ _).cell (p := ⟨FB, 3, none⟩) (by first | exact hFBl.out | (simp; exact hFBl.out)) hFX.out).trans hHeld.2.2.1, ((Ch.set_ _ _ _).cell (p := ⟨FB, 4, none⟩) (by first | exact hFBl.out | (simp; exact hFBl.out)) hFX.out).trans hHeld.2.2.2⟩
      clear hK K
      try simp only [Act.put, List.getElem_toArray, List.getElem_cons_zero, List.getElem_cons_succ, List.setIfInBounds_toArray, List.set_cons_zero, List.set_cons_succ]
      refine wpAnyH_done (by kernel_rfl) ?_ _
      have G10 := Lib.hid (((((G9.out.set_ 11 (.bool e.ho) (e' := (⟨e.dot, e.st, 2, [], [], [], [], e.ho, false, false, false, 0, 0, 0, e.over⟩ : Ed)) rfl rfl).set_ 12 (.bool e.se) (e' := (⟨e.dot, e.st, 2, [], [], [], [], e.ho, e.se, false, false, 0, 0, 0, e.over⟩ : Ed)) rfl rfl).set_ 13 (.bool e.ht) (e' := (⟨e.dot, e.st, 2, [], [], [], [], e.ho, e.se, e.ht, false, 0, 0, 0, e.over⟩ : Ed)) rfl rfl).set_ 14 (.bool e.pe) (e' := (⟨e.dot, e.st, 2, [], [], [], [], e.ho, e.se, e.ht, e.pe, 0, 0, 0, e.over⟩ : Ed)) rfl rfl).low (Below.refl _ _).drew)
      have q0 : ((((wr.setCell ⟨w.heap.size + 1, 11, none⟩ (.bool e.ho)).setCell ⟨w.heap.size + 1, 12, none⟩ (.bool e.se)).setCell ⟨w.heap.size + 1, 13, none⟩ (.bool e.ht)).setCell ⟨w.heap.size + 1, 14, none⟩ (.bool e.pe)).drew.cell? ⟨FB, 0, none⟩ = some (.bool (decide (e.kind = 1))) := by
        refine Eq.trans ?_ Q0.out
        have hl := hFBl.out
        refine (((Ch.set_ _ _ _).cell (p := ⟨FB, 0, none⟩) (by simp; exact hl) hFX.out).trans (((Ch.set_ _ _ _).cell (p := ⟨FB, 0, none⟩) (by simp; exact hl) hFX.out).trans (((Ch.set_ _ _ _).cell (p := ⟨FB, 0, none⟩) (by simp; exact hl) hFX.out).trans ((Ch.set_ _ _ _).cell (p := ⟨FB, 0, none⟩) hl hFX.out))))
      generalize hWW : ((((wr.setCell ⟨w.heap.size + 1, 11, none⟩ (.bool e.ho)).setCell ⟨w.heap.size + 1, 12, none⟩ (.bool e.se)).setCell ⟨w.heap.size + 1, 13, none⟩ (.bool e.ht)).setCell ⟨w.heap.size + 1, 14, none⟩ (.bool e.pe)).drew = W10 at *
      clear hWW c11 c12 c13 c14 f11 f12 f13 f14 Q Q0 G9 F9 hFX hFBl
      by_cases hk : e.kind = 1
      · have hkb : decide (e.kind = 1) = true := decide_eq_true hk
        rw [hkb] at q0
        rw [if_pos hk] at G10
        have ke := Lib.hid (ed_put hk)
        have c6 := G10.out.ev.cell 6
        have c6 : W10.cell? ⟨w.heap.size + 1, 6, none⟩ = some (.int .i64 2) := c6
        have f6 := G10.out.ev.free 6
        have hkh := Lib.hid hk
        clear hkb hk
        go_wp2_with fail
        refine (CI.out (⟨e.dot, e.st, 1, [], [], [], [], e.ho, e.se, e.ht, e.pe, 0, 0, 0, e.over⟩ : Ed) _ _ _ _ _ _ _ _ (G10.out.set_ 6 (.int .i64 1) (e' := (⟨e.dot, e.st, 1, [], [], [], [], e.ho, e.se, e.ht, e.pe, 0, 0, 0, e.over⟩ : Ed)) rfl rfl) hkh.out).mono ?_; rintro r w11 ⟨rfl, A11, n11, c11, hG11⟩
        have G11 := Lib.hid (show GS w b (w.heap.size + 1) w.heap.size w11 A11 n11 c11 R e Ao co from ke.out ▸ hG11)
        clear hG11 G10 c6 f6 q0
        go_wp2_with fail
        refine (CE.out _ _ _ _ _ G11.out.re).mono ?_; rintro r w12 ⟨rfl, rfl⟩
        go_wp2_with (refine ld_whole (by rfl) _ rfl rfl G11.out.ev Tryz.underlying59 rfl (by kernel_rfl) ?_)
        refine (CR.out _ _ _ (MsAt.own (G11.out.ow))).mono ?_; rintro r w12 ⟨rfl, b12⟩
        have G12 := Lib.hid (G11.out.low b12)
        clear b12 G11
        go_wp2_with fail
        refine (CE.out _ _ _ _ _ G12.out.re).mono ?_; rintro r w13 ⟨rfl, rfl⟩
        go_wp2_with (first | (refine ld_whole (by rfl) _ rfl rfl G12.out.ev Tryz.underlying59 rfl (by kernel_rfl) ?_) | (refine st_whole (by rfl) _ _ rfl rfl rfl G12.out.rz (by rfl) (by kernel_rfl) (by rfl) ?_; intro W14 hX14 hC14 hz14; have H14 := Lib.hid (And.intro hX14 hC14); clear hX14 hC14 hz14))
        have hbx := G12.out.bx
        refine bodyPost_ret (results_cell rfl rfl H14.out.1.range Tryz.underlying59 rfl (by kernel_rfl)) rfl ⟨_, _, _, Ao, co, rfl, ⟨G12.out.re.1.ch H14.out.2 (by omega), G12.out.re.2.1.ch (Nat.le_of_lt G12.out.re.1.lt) H14.out.2 (fun k hk _ e => by omega), G12.out.re.2.2⟩, G12.out.ch.trans H14.out.2 (fun k hk e => by omega), ?_⟩
        exact G12.out.ow.ch H14.out.2 (fun k _ _ hk e => G12.out.r_apart (by rw [hk, e]))
      · have hkb : decide (e.kind = 1) = false := decide_eq_false hk
        rw [hkb] at q0
        rw [if_neg hk] at G10
        have hk2 : e.kind = 2 := HKD.out.1.resolve_left hk
        have hz : zeroB e = true := by
          have h := HKD.out.2
          rw [evB_eq, if_pos hk2] at h
          simp only [Bool.and_eq_true] at h
          exact h.2.1
        have ke := Lib.hid (ed_rem hk2 hz)
        have G11 := Lib.hid (show GS w b (w.heap.size + 1) w.heap.size W10 A2 n2 c2 R e Ao co from ke.out ▸ G10.out)
        clear hkb hk hk2 hz G10 ke
        go_wp2_with fail
        refine (CE.out _ _ _ _ _ G11.out.re).mono ?_; rintro r w12 ⟨rfl, rfl⟩
        go_wp2_with (refine ld_whole (by rfl) _ rfl rfl G11.out.ev Tryz.underlying59 rfl (by kernel_rfl) ?_)
        refine (CR.out _ _ _ (MsAt.own (G11.out.ow))).mono ?_; rintro r w12 ⟨rfl, b12⟩
        have G12 := Lib.hid (G11.out.low b12)
        clear b12 G11
        go_wp2_with fail
        refine (CE.out _ _ _ _ _ G12.out.re).mono ?_; rintro r w13 ⟨rfl, rfl⟩
        go_wp2_with (first | (refine ld_whole (by rfl) _ rfl rfl G12.out.ev Tryz.underlying59 rfl (by kernel_rfl) ?_) | (refine st_whole (by rfl) _ _ rfl rfl rfl G12.out.rz (by rfl) (by kernel_rfl) (by rfl) ?_; intro W14 hX14 hC14 hz14; have H14 := Lib.hid (And.intro hX14 hC14); clear hX14 hC14 hz14))
        have hbx := G12.out.bx
        refine bodyPost_ret (results_cell rfl rfl H14.out.1.range Tryz.underlying59 rfl (by kernel_rfl)) rfl ⟨_, _, _, Ao, co, rfl, ⟨G12.out.re.1.ch H14.out.2 (by omega), G12.out.re.2.1.ch (Nat.le_of_lt G12.out.re.1.lt) H14.out.2 (fun k hk _ e => by omega), G12.out.re.2.2⟩, G12.out.ch.trans H14.out.2 (fun k hk e => by omega), ?_⟩
        exact G12.out.ow.ch H14.out.2 (fun k _ _ hk e => G12.out.r_apart (by rw [hk, e]))
end Go.Proofs.YtpakmeegldgjmaaGreat
/- Layer 35 (msg): events in slices; device, rising. -/
namespace Go.Proofs.YtpakmeegldgjmaaGreat
open Go.RowKit
set_option linter.unusedVariables false
set_option linter.unusedSimpArgs false
set_option maxRecDepth 100000
attribute [local go_sem ↓] Go.wp_at_zero Go.wp_at_succ
attribute [local go_sem] bs_size bs_list bs_nil_list

/-- An event, and where its Over lies. -/
structure El where
  e : Ed
  A : Option Addr
  c : Nat
def elC (x : El) : List Value := (evA x.e x.A x.c).toList
theorem elC_len (x : El) : (elC x).length = 19 := rfl
/-- A slice of events. -/
structure EsAt (w : World) (B : Nat) (A : Option Addr) (Es : List El) : Prop where
  rd : Rd w B 19 A Es.length (Es.flatMap elC)
  ov : ∀ y ∈ Es, Ds w B y.A y.e.over
theorem EsAt.below {w w' : World} {B : Nat} {A : Option Addr} {Es : List El} (h : EsAt w B A Es) (b : Below B w w') : EsAt w' B A Es := ⟨h.rd.below b, fun y hy => Ds.below (h.ov y hy) b⟩
theorem EsAt.more {w : World} {B B' : Nat} {A : Option Addr} {Es : List El} (h : EsAt w B A Es) (b : B ≤ B') : EsAt w B' A Es := ⟨h.rd.more b, fun y hy => (h.ov y hy).more b⟩
theorem EsAt.up {w w' : World} {A : Option Addr} {Es : List El} (h : EsAt w w.heap.size A Es) (b : Below w.heap.size w w') : EsAt w' w'.heap.size A Es := (h.below b).more b.size
theorem EsAt.at_ {w : World} {B i : Nat} {A : Option Addr} {Es : List El} {x : El} (h : EsAt w B A Es) (hx : Es[i]? = some x) :
    ∃ b o, A = some ⟨b, o, none⟩ ∧ b < B ∧ w.rangeAt b (o + i * 19) (evA x.e x.A x.c).toList ∧ Ds w B x.A x.e.over := by
  obtain ⟨b, o, h1, h2, h3⟩ := rd_range (by omega) elC_len h.rd hx
  exact ⟨b, o, h1, h2, h3, h.ov x (List.mem_of_getElem? hx)⟩
theorem range_dot {w : World} {b o : Nat} {e : Ed} {A : Option Addr} {c : Nat} (h : w.rangeAt b o (evA e A c).toList) : w.cell? ⟨b, o, none⟩ = some (.int .i64 e.dot.1.1) ∧ w.cell? ⟨b, o + 1, none⟩ = some (.int .i64 e.dot.1.2) ∧ w.cell? ⟨b, o + 2, none⟩ = some (.int .i64 e.dot.2) :=
  ⟨h 0 _ rfl, h 1 _ rfl, h 2 _ rfl⟩
theorem range_below {w w' : World} {b o N : Nat} {vs : List Value} (h : w.rangeAt b o vs) (k : Below N w w') (hb : b < N) : w'.rangeAt b o vs := fun j v hv => (k.cell (by exact hb)).trans (h j v hv)
def prevD (p : Option Dt) (L : List Ed) (j : Nat) : Option Dt := if j = 0 then p else (L[j - 1]?).map (·.dot)
def okEd (p : Option Dt) (x : Ed) : Bool := evB x && (match p with | none => true | some q => dLt q x.dot)
theorem prevD_cons (p : Option Dt) (d : Ed) (r : List Ed) (j : Nat) : prevD p (d :: r) (j + 1) = prevD (some d.dot) r j := by
  unfold prevD
  rw [if_neg (by omega)]
  cases j with
  | zero => rfl
  | succ j => rw [if_neg (by omega)]; simp
theorem riseG_cons (p : Option Dt) (e : Ed) (r : List Ed) : riseG p (e :: r) = (okEd p e && riseG (some e.dot) r) := rfl
theorem riseG_yes {p : Option Dt} {L : List Ed} (h : ∀ j x, L[j]? = some x → okEd (prevD p L j) x = true) : riseG p L = true := by
  induction L generalizing p with
  | nil => rfl
  | cons d r ih =>
    have h0 : okEd p d = true := h 0 d rfl
    rw [riseG_cons, h0, ih (p := some d.dot) (fun j x hx => by have := h (j + 1) x hx; rwa [prevD_cons] at this)]
    rfl
theorem riseG_no {p : Option Dt} {L : List Ed} {j : Nat} {x : Ed} (hx : L[j]? = some x) (h : okEd (prevD p L j) x = false) : riseG p L = false := by
  induction L generalizing p j with
  | nil => simp at hx
  | cons d r ih =>
    rw [riseG_cons]
    cases j with
    | zero =>
      simp at hx
      subst hx
      have h' : okEd p d = false := h
      rw [h']
      rfl
    | succ j =>
      rw [prevD_cons] at h
      rw [ih (p := some d.dot) (j := j) (by simpa using hx) h, Bool.and_false]
theorem okE_step {L : List Ed} {j : Nat} {x0 : Ed} (h : ∀ k x, k < j → L[k]? = some x → okEd (prevD none L k) x = true) (hx : L[j]? = some x0) (h0 : okEd (prevD none L j) x0 = true) :
    ∀ k x, k < j + 1 → L[k]? = some x → okEd (prevD none L k) x = true := fun k x hk hx' => by
  by_cases hkj : k = j
  · subst hkj
    rw [hx] at hx'
    injection hx' with hx'
    subst hx'
    exact h0
  · exact h k x (by omega) hx'
/-- The events of a slice. -/
def eds (Es : List El) : List Ed := Es.map (·.e)
theorem eds_get {Es : List El} {i : Nat} {x : El} (h : Es[i]? = some x) : (eds Es)[i]? = some x.e := by simp [eds, h]
theorem device_any (n : Int) (w : World) : Calls Tryz.prog 58 #[.int .i64 n] w fun r w' => r = .returned (.bool (devB n)) ∧ w = w' := by
  unfold devB
  by_cases h1 : 0 ≤ n
  · have t1 : decide (0 ≤ n) = true := decide_eq_true h1
    by_cases h2 : n < 64
    · have t2 : decide (n < 64) = true := decide_eq_true h2
      rw [t1, t2]
      go_enter Tryz.func58, Tryz.ntmps58
      go_wp2
      go_ret
      exact ⟨rfl, rfl⟩
    · have t2 : decide (n < 64) = false := decide_eq_false h2
      rw [t1, t2]
      go_enter Tryz.func58, Tryz.ntmps58
      go_wp2
      go_ret
      exact ⟨rfl, rfl⟩
  · have t1 : decide (0 ≤ n) = false := decide_eq_false h1
    rw [t1]
    go_enter Tryz.func58, Tryz.ntmps58
    go_wp2
    go_ret
    exact ⟨rfl, rfl⟩
/-- An event's block, as it is laid. -/
def zeroE' : Array Value := #[.int .i64 0, .int .i64 0, .int .i64 0, .int .i64 0, .int .i64 0, .int .i64 0, .int .i64 0, .string ⟨#[]⟩, .string ⟨#[]⟩, .string ⟨#[]⟩, .string ⟨#[]⟩, .bool false, .bool false, .bool false, .bool false, .int .i64 0, .int .i64 0, .int .i64 0, .slice none 0 0]
/-- Are the texts of all events short? -/
def shorts (Es : List El) : Prop := ∀ y ∈ Es, short y.e
set_option maxHeartbeats 8000000 in
theorem rising_any (Es : List El) (A : Option Addr) (c : Nat) (w : World) (h : EsAt w w.heap.size A Es) (hs : shorts Es) (hn : Es.length ≤ 1000000) : Calls Tryz.prog 59 #[.slice A Es.length c] w fun r w' => r = .returned (.bool (riseB (eds Es))) ∧ Below w.heap.size w w' := by
  have HV := Lib.hid (show riseB (eds Es) = (riseG none (eds Es) && decide (Es.length ≤ 256)) by unfold riseB; rw [show (eds Es).length = Es.length by simp [eds]])
  generalize hlen : Es.length = n at *
  have HLn := Lib.hid hlen
  have HEs := Lib.hid h
  have HSH := Lib.hid hs
  clear hlen h hs
  go_enter Tryz.func59, Tryz.ntmps59
  go_wp2
  go_loopw [7] (fun i wr => ∃ j : Nat, j ≤ n ∧ i = .int .i64 j ∧ (∀ k x, k < j → (eds Es)[k]? = some x → okEd (prevD none (eds Es) k) x = true) ∧ Below w.heap.size w wr) (fun i _ => n - (intOf i).toNat)
  case atStart => exact ⟨0, by omega, rfl, fun k x hk => absurd hk (by omega), Below.refl _ _⟩
  case round =>
    obtain ⟨j, hj, rfl, hk, hb⟩ := hrel
    have HK := Lib.hid (And.intro hk hb)
    clear hk hb
    by_cases hlt : j < n
    · obtain ⟨x, hx⟩ : ∃ x, Es[j]? = some x := ⟨Es[j]'(by have := HLn.out; omega), List.getElem?_eq_getElem _⟩
      obtain ⟨b0, o0, hA, hbN, hrg, hds⟩ := (HEs.out.below HK.out.2).at_ hx
      subst hA
      have HXj := Lib.hid (eds_get hx)
      have hsx := HSH.out x (List.mem_of_getElem? hx)
      have CR0 : ∀ (W : World), MsAt W x.A x.e.over → Calls Tryz.prog 43 #[.agg (evA x.e x.A x.c)] W fun r w' => r = .returned (.bool (evB x.e)) ∧ Below W.heap.size W w' := fun W hm => evright_any x.e x.A x.c W hm hsx
      have HRG := Lib.hid (And.intro hrg hds)
      have hNr : w.heap.size ≤ wr.heap.size := HK.out.2.size
      have hZ := Whole.new wr 59 zeroE'
      have HZ := Lib.hid hZ
      unfold zeroE' at HZ
      clear hx hrg hds hZ hsx
      go_wp2_with (first | (refine ld_range (by rfl) _ rfl rfl HRG.out.1 Tryz.underlying59 rfl (by kernel_rfl) ?_) | (refine st_whole (by rfl) _ _ rfl rfl rfl HZ.out (by rfl) (by kernel_rfl) (by rfl) ?_; intro W1 hX1 hC1 hz1; have H1 := Lib.hid (And.intro hX1 (And.intro hC1 hz1)); clear hX1 hC1 hz1))
      have hEl : wr.heap.size < W1.heap.size := H1.out.1.lt
      have HB1 := Lib.hid (show Below w.heap.size w W1 from (HK.out.2.trans ((Below.refl _ wr).alloc hNr _)).trans (H1.out.2.1.below (fun k hk e => by omega) (by simp; omega)))
      have hW := H1.out.1
      have hDs := HRG.out.2.below ((((Below.refl _ wr).alloc hNr _)).trans (H1.out.2.1.below (fun k hk e => by omega) (by simp; omega)))
      have hNW : w.heap.size ≤ W1.heap.size := by omega
      have HEs1 := Lib.hid (HEs.out.below HB1.out)
      have hbl : b0 < W1.heap.size := by omega
      have MO := Lib.hid (fun (W : World) (h : Below W1.heap.size W1 W) => show MsAt W x.A x.e.over from (Ds.more (Ds.below hDs (below_of_le h hNW)) (by have := h.size; omega)))
      clear H1 HZ HRG hDs
      generalize wr.heap.size = E at *
      have hN0 : W1.heap.size ≤ W1.drew.heap.size := Nat.le_refl _
      have m0 := hW.range
      have m1 : W1.cell? ⟨E, 0, none⟩ = some (.int .i64 x.e.dot.1.1) := by rw [hW.cell]; rfl
      have m2 : W1.cell? ⟨E, 1, none⟩ = some (.int .i64 x.e.dot.1.2) := by rw [hW.cell]; rfl
      have m3 : W1.cell? ⟨E, 2, none⟩ = some (.int .i64 x.e.dot.2) := by rw [hW.cell]; rfl
      have HS := Lib.hid (And.intro m0 (And.intro m1 (And.intro m2 m3)))
      clear m0 m1 m2 m3 hW
      by_cases hj0 : j = 0
      · subst hj0
        have HPV := Lib.hid (show prevD none (eds Es) 0 = none from rfl)
        cases hr : evB x.e with
        | false =>
          rw [hr] at CR0
          have CR := Lib.hid CR0
          clear CR0
          have hr' := hr
          clear hr
          have HX := Lib.hid (show okEd (prevD none (eds Es) 0) x.e = false from by unfold okEd; rw [hr']; rfl)
          clear hr'
          refine wp_region_held_drew (S := (fun W => W.rangeAt E 0 (evA x.e x.A x.c).toList ∧ W.cell? ⟨E, 0, none⟩ = some (.int .i64 x.e.dot.1.1) ∧ W.cell? ⟨E, 1, none⟩ = some (.int .i64 x.e.dot.1.2) ∧ W.cell? ⟨E, 2, none⟩ = some (.int .i64 x.e.dot.2))) (by kernel_rfl) ?_ (fun hHeld => ?_)
          · (try dsimp only); exact HS.out
          refine wpAnyH_take (i := 0) rfl (by kernel_rfl) (by kernel_rfl) (by kernel_rfl) (fun _ _ _ h => h) (take_range (by rfl) _ rfl rfl (fun W h => h.1) Tryz.underlying59 rfl (by kernel_rfl)) (by assumption) ?_
          try simp only [Act.put, List.getElem_toArray, List.getElem_cons_zero, List.setIfInBounds_toArray, List.set_cons_zero, List.set_cons_succ]
          refine wpAnyH_ready (rs := [1]) (by kernel_rfl) (by simp) ?_
          refine AllReadyH.cons rfl (fun K hK => ?_) AllReadyH.nil
          go_simp
          refine (CR.out _ (MO.out _ (Below.drew (Below.refl _ _)))).mono ?_; rintro r w5 ⟨rfl, b5⟩
          go_wp2_with fail
          refine hK.out _ _ ?_ (fun hHeld => ?_)
          · (try dsimp only); exact ⟨range_below hHeld.1 (below_of_le b5 hN0) hEl, ((below_of_le b5 hN0).cell (show _ < _ from hEl)).trans hHeld.2.1, ((below_of_le b5 hN0).cell (show _ < _ from hEl)).trans hHeld.2.2.1, ((below_of_le b5 hN0).cell (show _ < _ from hEl)).trans hHeld.2.2.2⟩
          clear hK K
          try simp only [Act.put, List.getElem_toArray, List.getElem_cons_zero, List.getElem_cons_succ, List.setIfInBounds_toArray, List.set_cons_zero, List.set_cons_succ]
          have B5 := Lib.hid (below_of_le b5 hN0)
          clear b5
          refine wpAnyH_take (i := 2) (v := ?_) rfl (by kernel_rfl) (by kernel_rfl) (by kernel_rfl) (fun _ _ _ h => h) (Or.inl ⟨by rfl, ?_⟩) (by assumption) ?_
          rotate_left
          first | (focus ((intro w hSw; (try dsimp only at hSw); go_simp); (try with_reducible rfl); done)) | fail
          try simp only [Act.put, List.getElem_toArray, List.getElem_cons_zero, List.getElem_cons_succ, List.setIfInBounds_toArray, List.set_cons_zero, List.set_cons_succ]
          refine wpAnyH_take (i := 3) (v := ?_) rfl (by kernel_rfl) (by kernel_rfl) (by kernel_rfl) (fun _ _ _ h => h) (Or.inl ⟨by rfl, ?_⟩) (by assumption) ?_
          rotate_left
          first | (focus ((intro w hSw; (try dsimp only at hSw); go_simp); (try with_reducible rfl); done)) | fail
          try simp only [Act.put, List.getElem_toArray, List.getElem_cons_zero, List.getElem_cons_succ, List.setIfInBounds_toArray, List.set_cons_zero, List.set_cons_succ]
          refine wpAnyH_take (i := 4) (v := undef) rfl (by kernel_rfl) (by kernel_rfl) (by kernel_rfl) (fun _ _ _ h => h) (Or.inr ⟨by rfl, rfl⟩) (by assumption) ?_
          try simp only [Act.put, List.getElem_toArray, List.getElem_cons_zero, List.getElem_cons_succ, List.setIfInBounds_toArray, List.set_cons_zero, List.set_cons_succ]
          refine wpAnyH_take (i := 5) (v := undef) rfl (by kernel_rfl) (by kernel_rfl) (by kernel_rfl) (fun _ _ _ h => h) (Or.inr ⟨by rfl, rfl⟩) (by assumption) ?_
          try simp only [Act.put, List.getElem_toArray, List.getElem_cons_zero, List.getElem_cons_succ, List.setIfInBounds_toArray, List.set_cons_zero, List.set_cons_succ]
          refine wpAnyH_take (i := 6) (v := undef) rfl (by kernel_rfl) (by kernel_rfl) (by kernel_rfl) (fun _ _ _ h => h) (Or.inr ⟨by rfl, rfl⟩) (by assumption) ?_
          try simp only [Act.put, List.getElem_toArray, List.getElem_cons_zero, List.getElem_cons_succ, List.setIfInBounds_toArray, List.set_cons_zero, List.set_cons_succ]
          refine wpAnyH_take (i := 7) (v := undef) rfl (by kernel_rfl) (by kernel_rfl) (by kernel_rfl) (fun _ _ _ h => h) (Or.inr ⟨by rfl, rfl⟩) (by assumption) ?_
          try simp only [Act.put, List.getElem_toArray, List.getElem_cons_zero, List.getElem_cons_succ, List.setIfInBounds_toArray, List.set_cons_zero, List.set_cons_succ]
          refine wpAnyH_take (i := 8) (v := undef) rfl (by kernel_rfl) (by kernel_rfl) (by kernel_rfl) (fun _ _ _ h => h) (Or.inr ⟨by rfl, rfl⟩) (by assumption) ?_
          try simp only [Act.put, List.getElem_toArray, List.getElem_cons_zero, List.getElem_cons_succ, List.setIfInBounds_toArray, List.set_cons_zero, List.set_cons_succ]
          refine wpAnyH_take (i := 9) (v := undef) rfl (by kernel_rfl) (by kernel_rfl) (by kernel_rfl) (fun _ _ _ h => h) (Or.inr ⟨by rfl, rfl⟩) (by assumption) ?_
          try simp only [Act.put, List.getElem_toArray, List.getElem_cons_zero, List.getElem_cons_succ, List.setIfInBounds_toArray, List.set_cons_zero, List.set_cons_succ]
          refine wpAnyH_take (i := 10) (v := undef) rfl (by kernel_rfl) (by kernel_rfl) (by kernel_rfl) (fun _ _ _ h => h) (Or.inr ⟨by rfl, rfl⟩) (by assumption) ?_
          try simp only [Act.put, List.getElem_toArray, List.getElem_cons_zero, List.getElem_cons_succ, List.setIfInBounds_toArray, List.set_cons_zero, List.set_cons_succ]
          refine wpAnyH_take (i := 11) (v := undef) rfl (by kernel_rfl) (by kernel_rfl) (by kernel_rfl) (fun _ _ _ h => h) (Or.inr ⟨by rfl, rfl⟩) (by assumption) ?_
          try simp only [Act.put, List.getElem_toArray, List.getElem_cons_zero, List.getElem_cons_succ, List.setIfInBounds_toArray, List.set_cons_zero, List.set_cons_succ]
          refine wpAnyH_take (i := 12) (v := undef) rfl (by kernel_rfl) (by kernel_rfl) (by kernel_rfl) (fun _ _ _ h => h) (Or.inr ⟨by rfl, rfl⟩) (by assumption) ?_
          try simp only [Act.put, List.getElem_toArray, List.getElem_cons_zero, List.getElem_cons_succ, List.setIfInBounds_toArray, List.set_cons_zero, List.set_cons_succ]
          refine wpAnyH_take (i := 13) (v := undef) rfl (by kernel_rfl) (by kernel_rfl) (by kernel_rfl) (fun _ _ _ h => h) (Or.inr ⟨by rfl, rfl⟩) (by assumption) ?_
          try simp only [Act.put, List.getElem_toArray, List.getElem_cons_zero, List.getElem_cons_succ, List.setIfInBounds_toArray, List.set_cons_zero, List.set_cons_succ]
          refine wpAnyH_take (i := 14) (v := undef) rfl (by kernel_rfl) (by kernel_rfl) (by kernel_rfl) (fun _ _ _ h => h) (Or.inr ⟨by rfl, rfl⟩) (by assumption) ?_
          try simp only [Act.put, List.getElem_toArray, List.getElem_cons_zero, List.getElem_cons_succ, List.setIfInBounds_toArray, List.set_cons_zero, List.set_cons_succ]
          refine wpAnyH_take (i := 15) (v := undef) rfl (by kernel_rfl) (by kernel_rfl) (by kernel_rfl) (fun _ _ _ h => h) (Or.inr ⟨by rfl, rfl⟩) (by assumption) ?_
          try simp only [Act.put, List.getElem_toArray, List.getElem_cons_zero, List.getElem_cons_succ, List.setIfInBounds_toArray, List.set_cons_zero, List.set_cons_succ]
          refine wpAnyH_take (i := 16) (v := undef) rfl (by kernel_rfl) (by kernel_rfl) (by kernel_rfl) (fun _ _ _ h => h) (Or.inr ⟨by rfl, rfl⟩) (by assumption) ?_
          try simp only [Act.put, List.getElem_toArray, List.getElem_cons_zero, List.getElem_cons_succ, List.setIfInBounds_toArray, List.set_cons_zero, List.set_cons_succ]
          refine wpAnyH_take (i := 17) (v := undef) rfl (by kernel_rfl) (by kernel_rfl) (by kernel_rfl) (fun _ _ _ h => h) (Or.inr ⟨by rfl, rfl⟩) (by assumption) ?_
          try simp only [Act.put, List.getElem_toArray, List.getElem_cons_zero, List.getElem_cons_succ, List.setIfInBounds_toArray, List.set_cons_zero, List.set_cons_succ]
          refine wpAnyH_take (i := 18) (v := ?_) rfl (by kernel_rfl) (by kernel_rfl) (by kernel_rfl) (fun _ _ _ h => h) (Or.inl ⟨by rfl, ?_⟩) (by assumption) ?_
          rotate_left
          first | (focus ((intro w hSw; (try dsimp only at hSw); go_simp); (try with_reducible rfl); done)) | fail
          try simp only [Act.put, List.getElem_toArray, List.getElem_cons_zero, List.getElem_cons_succ, List.setIfInBounds_toArray, List.set_cons_zero, List.set_cons_succ]
          refine wpAnyH_done (by kernel_rfl) ?_ _
          go_wp2
          go_ret
          exact ⟨by rw [HV.out, riseG_no HXj.out HX.out]; rfl, HB1.out.drew.trans (below_of_le B5.out hNW)⟩
        | true =>
          rw [hr] at CR0
          have CR := Lib.hid CR0
          clear CR0
          have hr' := hr
          clear hr
          have HX := Lib.hid (show okEd (prevD none (eds Es) 0) x.e = true from by unfold okEd; rw [hr', HPV.out]; rfl)
          clear hr'
          refine wp_region_held_drew (S := (fun W => W.rangeAt E 0 (evA x.e x.A x.c).toList ∧ W.cell? ⟨E, 0, none⟩ = some (.int .i64 x.e.dot.1.1) ∧ W.cell? ⟨E, 1, none⟩ = some (.int .i64 x.e.dot.1.2) ∧ W.cell? ⟨E, 2, none⟩ = some (.int .i64 x.e.dot.2))) (by kernel_rfl) ?_ (fun hHeld => ?_)
          · (try dsimp only); exact HS.out
          refine wpAnyH_take (i := 0) rfl (by kernel_rfl) (by kernel_rfl) (by kernel_rfl) (fun _ _ _ h => h) (take_range (by rfl) _ rfl rfl (fun W h => h.1) Tryz.underlying59 rfl (by kernel_rfl)) (by assumption) ?_
          try simp only [Act.put, List.getElem_toArray, List.getElem_cons_zero, List.setIfInBounds_toArray, List.set_cons_zero, List.set_cons_succ]
          refine wpAnyH_ready (rs := [1]) (by kernel_rfl) (by simp) ?_
          refine AllReadyH.cons rfl (fun K hK => ?_) AllReadyH.nil
          go_simp
          refine (CR.out _ (MO.out _ (Below.drew (Below.refl _ _)))).mono ?_; rintro r w5 ⟨rfl, b5⟩
          go_wp2_with fail
          refine hK.out _ _ ?_ (fun hHeld => ?_)
          · (try dsimp only); exact ⟨range_below hHeld.1 (below_of_le b5 hN0) hEl, ((below_of_le b5 hN0).cell (show _ < _ from hEl)).trans hHeld.2.1, ((below_of_le b5 hN0).cell (show _ < _ from hEl)).trans hHeld.2.2.1, ((below_of_le b5 hN0).cell (show _ < _ from hEl)).trans hHeld.2.2.2⟩
          clear hK K
          try simp only [Act.put, List.getElem_toArray, List.getElem_cons_zero, List.getElem_cons_succ, List.setIfInBounds_toArray, List.set_cons_zero, List.set_cons_succ]
          have B5 := Lib.hid (below_of_le b5 hN0)
          clear b5
          refine wpAnyH_take (i := 2) (v := ?_) rfl (by kernel_rfl) (by kernel_rfl) (by kernel_rfl) (fun _ _ _ h => h) (Or.inl ⟨by rfl, ?_⟩) (by assumption) ?_
          rotate_left
          first | (focus ((intro w hSw; (try dsimp only at hSw); go_simp); (try with_reducible rfl); done)) | fail
          try simp only [Act.put, List.getElem_toArray, List.getElem_cons_zero, List.getElem_cons_succ, List.setIfInBounds_toArray, List.set_cons_zero, List.set_cons_succ]
          refine wpAnyH_take (i := 3) (v := ?_) rfl (by kernel_rfl) (by kernel_rfl) (by kernel_rfl) (fun _ _ _ h => h) (Or.inl ⟨by rfl, ?_⟩) (by assumption) ?_
          rotate_left
          first | (focus ((intro w hSw; (try dsimp only at hSw); go_simp); (try with_reducible rfl); done)) | fail
          try simp only [Act.put, List.getElem_toArray, List.getElem_cons_zero, List.getElem_cons_succ, List.setIfInBounds_toArray, List.set_cons_zero, List.set_cons_succ]
          refine wpAnyH_take (i := 4) (v := ?_) rfl (by kernel_rfl) (by kernel_rfl) (by kernel_rfl) (fun _ _ _ h => h) (Or.inl ⟨by rfl, ?_⟩) (by assumption) ?_
          rotate_left
          first | (focus ((intro w hSw; (try dsimp only at hSw); go_simp); (try with_reducible rfl); done)) | fail
          try simp only [Act.put, List.getElem_toArray, List.getElem_cons_zero, List.getElem_cons_succ, List.setIfInBounds_toArray, List.set_cons_zero, List.set_cons_succ]
          refine wpAnyH_take (i := 5) (v := ?_) rfl (by kernel_rfl) (by kernel_rfl) (by kernel_rfl) (fun _ _ _ h => h) (Or.inl ⟨by rfl, ?_⟩) (by assumption) ?_
          rotate_left
          first | (focus ((intro w hSw; (try dsimp only at hSw); go_simp); (try with_reducible rfl); done)) | fail
          try simp only [Act.put, List.getElem_toArray, List.getElem_cons_zero, List.getElem_cons_succ, List.setIfInBounds_toArray, List.set_cons_zero, List.set_cons_succ]
          refine wpAnyH_take (i := 6) (v := ?_) rfl (by kernel_rfl) (by kernel_rfl) (by kernel_rfl) (fun _ _ _ h => h) (Or.inl ⟨by rfl, ?_⟩) (by assumption) ?_
          rotate_left
          first | (focus ((intro w hSw; (try dsimp only at hSw); go_simp); (try with_reducible rfl); done)) | fail
          try simp only [Act.put, List.getElem_toArray, List.getElem_cons_zero, List.getElem_cons_succ, List.setIfInBounds_toArray, List.set_cons_zero, List.set_cons_succ]
          refine wpAnyH_take (i := 7) (v := undef) rfl (by kernel_rfl) (by kernel_rfl) (by kernel_rfl) (fun _ _ _ h => h) (Or.inr ⟨by rfl, rfl⟩) (by assumption) ?_
          try simp only [Act.put, List.getElem_toArray, List.getElem_cons_zero, List.getElem_cons_succ, List.setIfInBounds_toArray, List.set_cons_zero, List.set_cons_succ]
          refine wpAnyH_take (i := 8) (v := undef) rfl (by kernel_rfl) (by kernel_rfl) (by kernel_rfl) (fun _ _ _ h => h) (Or.inr ⟨by rfl, rfl⟩) (by assumption) ?_
          try simp only [Act.put, List.getElem_toArray, List.getElem_cons_zero, List.getElem_cons_succ, List.setIfInBounds_toArray, List.set_cons_zero, List.set_cons_succ]
          refine wpAnyH_take (i := 9) (v := undef) rfl (by kernel_rfl) (by kernel_rfl) (by kernel_rfl) (fun _ _ _ h => h) (Or.inr ⟨by rfl, rfl⟩) (by assumption) ?_
          try simp only [Act.put, List.getElem_toArray, List.getElem_cons_zero, List.getElem_cons_succ, List.setIfInBounds_toArray, List.set_cons_zero, List.set_cons_succ]
          refine wpAnyH_take (i := 10) (v := undef) rfl (by kernel_rfl) (by kernel_rfl) (by kernel_rfl) (fun _ _ _ h => h) (Or.inr ⟨by rfl, rfl⟩) (by assumption) ?_
          try simp only [Act.put, List.getElem_toArray, List.getElem_cons_zero, List.getElem_cons_succ, List.setIfInBounds_toArray, List.set_cons_zero, List.set_cons_succ]
          refine wpAnyH_take (i := 11) (v := undef) rfl (by kernel_rfl) (by kernel_rfl) (by kernel_rfl) (fun _ _ _ h => h) (Or.inr ⟨by rfl, rfl⟩) (by assumption) ?_
          try simp only [Act.put, List.getElem_toArray, List.getElem_cons_zero, List.getElem_cons_succ, List.setIfInBounds_toArray, List.set_cons_zero, List.set_cons_succ]
          refine wpAnyH_take (i := 12) (v := undef) rfl (by kernel_rfl) (by kernel_rfl) (by kernel_rfl) (fun _ _ _ h => h) (Or.inr ⟨by rfl, rfl⟩) (by assumption) ?_
          try simp only [Act.put, List.getElem_toArray, List.getElem_cons_zero, List.getElem_cons_succ, List.setIfInBounds_toArray, List.set_cons_zero, List.set_cons_succ]
          refine wpAnyH_take (i := 13) (v := undef) rfl (by kernel_rfl) (by kernel_rfl) (by kernel_rfl) (fun _ _ _ h => h) (Or.inr ⟨by rfl, rfl⟩) (by assumption) ?_
          try simp only [Act.put, List.getElem_toArray, List.getElem_cons_zero, List.getElem_cons_succ, List.setIfInBounds_toArray, List.set_cons_zero, List.set_cons_succ]
          refine wpAnyH_take (i := 14) (v := undef) rfl (by kernel_rfl) (by kernel_rfl) (by kernel_rfl) (fun _ _ _ h => h) (Or.inr ⟨by rfl, rfl⟩) (by assumption) ?_
          try simp only [Act.put, List.getElem_toArray, List.getElem_cons_zero, List.getElem_cons_succ, List.setIfInBounds_toArray, List.set_cons_zero, List.set_cons_succ]
          refine wpAnyH_take (i := 15) (v := undef) rfl (by kernel_rfl) (by kernel_rfl) (by kernel_rfl) (fun _ _ _ h => h) (Or.inr ⟨by rfl, rfl⟩) (by assumption) ?_
          try simp only [Act.put, List.getElem_toArray, List.getElem_cons_zero, List.getElem_cons_succ, List.setIfInBounds_toArray, List.set_cons_zero, List.set_cons_succ]
          refine wpAnyH_take (i := 16) (v := undef) rfl (by kernel_rfl) (by kernel_rfl) (by kernel_rfl) (fun _ _ _ h => h) (Or.inr ⟨by rfl, rfl⟩) (by assumption) ?_
          try simp only [Act.put, List.getElem_toArray, List.getElem_cons_zero, List.getElem_cons_succ, List.setIfInBounds_toArray, List.set_cons_zero, List.set_cons_succ]
          refine wpAnyH_take (i := 17) (v := ?_) rfl (by kernel_rfl) (by kernel_rfl) (by kernel_rfl) (fun _ _ _ h => h) (Or.inl ⟨by rfl, ?_⟩) (by assumption) ?_
          rotate_left
          first | (focus ((intro w hSw; (try dsimp only at hSw); go_simp); (try with_reducible rfl); done)) | fail
          try simp only [Act.put, List.getElem_toArray, List.getElem_cons_zero, List.getElem_cons_succ, List.setIfInBounds_toArray, List.set_cons_zero, List.set_cons_succ]
          refine wpAnyH_take (i := 18) (v := ?_) rfl (by kernel_rfl) (by kernel_rfl) (by kernel_rfl) (fun _ _ _ h => h) (Or.inl ⟨by rfl, ?_⟩) (by assumption) ?_
          rotate_left
          first | (focus ((intro w hSw; (try dsimp only at hSw); go_simp); (try with_reducible rfl); done)) | fail
          try simp only [Act.put, List.getElem_toArray, List.getElem_cons_zero, List.getElem_cons_succ, List.setIfInBounds_toArray, List.set_cons_zero, List.set_cons_succ]
          refine wpAnyH_done (by kernel_rfl) ?_ _
          go_wp2
          go_roundw
          case rel => exact ⟨_, by omega, by go_num, okE_step HK.out.1 HXj.out HX.out, HB1.out.drew.trans (below_of_le B5.out hNW)⟩
          case measure => simp [intOf]; omega
      · obtain ⟨k, rfl⟩ : ∃ k, j = k + 1 := ⟨j - 1, by omega⟩
        obtain ⟨p, hp⟩ : ∃ p, Es[k]? = some p := ⟨Es[k]'(by have := HLn.out; omega), List.getElem?_eq_getElem _⟩
        obtain ⟨b1, o1', hA1', _, hrp, _⟩ := HEs1.out.at_ hp
        obtain ⟨rfl, rfl⟩ : b0 = b1 ∧ o0 = o1' := by simpa using hA1'
        clear hA1'
        obtain ⟨m0, m1, m2⟩ := range_dot hrp
        have HPV := Lib.hid (show prevD none (eds Es) (k + 1) = some p.e.dot by unfold prevD; rw [if_neg (by omega)]; show ((eds Es)[k]?).map _ = _; rw [eds_get hp]; rfl)
        clear hp hrp
        have CL := Lib.hid (fun w => less_dLt p.e.dot.1.1 p.e.dot.1.2 p.e.dot.2 x.e.dot.1.1 x.e.dot.1.2 x.e.dot.2 w)
        unfold dotV at CL
        have yk : IntKind.i64.wrap (k : Int) = (k : Int) := IntWalk.i64_in _ (by omega)
        have yk2 : decide ((0 : Int) < (k : Int) + 1) = true := decide_eq_true (by omega)
        have hkn : k < n := by omega
        have HS := Lib.hid (And.intro HS.out.1 (And.intro HS.out.2.1 (And.intro HS.out.2.2.1 (And.intro HS.out.2.2.2 (And.intro m0 (And.intro m1 m2))))))
        clear m0 m1 m2
        cases hr : evB x.e with
        | false =>
          rw [hr] at CR0
          have CR := Lib.hid CR0
          clear CR0
          have hr' := hr
          clear hr
          have HX := Lib.hid (show okEd (prevD none (eds Es) (k + 1)) x.e = false from by unfold okEd; rw [hr']; rfl)
          clear hr'
          refine wp_region_held_drew (S := (fun W => W.rangeAt E 0 (evA x.e x.A x.c).toList ∧ W.cell? ⟨E, 0, none⟩ = some (.int .i64 x.e.dot.1.1) ∧ W.cell? ⟨E, 1, none⟩ = some (.int .i64 x.e.dot.1.2) ∧ W.cell? ⟨E, 2, none⟩ = some (.int .i64 x.e.dot.2) ∧ W.cell? ⟨b0, o0 + k * 19, none⟩ = some (.int .i64 p.e.dot.1.1) ∧ W.cell? ⟨b0, o0 + k * 19 + 1, none⟩ = some (.int .i64 p.e.dot.1.2) ∧ W.cell? ⟨b0, o0 + k * 19 + 2, none⟩ = some (.int .i64 p.e.dot.2))) (by kernel_rfl) ?_ (fun hHeld => ?_)
          · (try dsimp only); exact HS.out
          refine wpAnyH_take (i := 0) rfl (by kernel_rfl) (by kernel_rfl) (by kernel_rfl) (fun _ _ _ h => h) (take_range (by rfl) _ rfl rfl (fun W h => h.1) Tryz.underlying59 rfl (by kernel_rfl)) (by assumption) ?_
          try simp only [Act.put, List.getElem_toArray, List.getElem_cons_zero, List.setIfInBounds_toArray, List.set_cons_zero, List.set_cons_succ]
          refine wpAnyH_ready (rs := [1]) (by kernel_rfl) (by simp) ?_
          refine AllReadyH.cons rfl (fun K hK => ?_) AllReadyH.nil
          go_simp
          refine (CR.out _ (MO.out _ (Below.drew (Below.refl _ _)))).mono ?_; rintro r w5 ⟨rfl, b5⟩
          go_wp2_with fail
          refine hK.out _ _ ?_ (fun hHeld => ?_)
          · (try dsimp only); exact ⟨range_below hHeld.1 (below_of_le b5 hN0) hEl, ((below_of_le b5 hN0).cell (show _ < _ from hEl)).trans hHeld.2.1, ((below_of_le b5 hN0).cell (show _ < _ from hEl)).trans hHeld.2.2.1, ((below_of_le b5 hN0).cell (show _ < _ from hEl)).trans hHeld.2.2.2.1, ((below_of_le b5 hN0).cell (show _ < _ from hbl)).trans hHeld.2.2.2.2.1, ((below_of_le b5 hN0).cell (show _ < _ from hbl)).trans hHeld.2.2.2.2.2.1, ((below_of_le b5 hN0).cell (show _ < _ from hbl)).trans hHeld.2.2.2.2.2.2⟩
          clear hK K
          try simp only [Act.put, List.getElem_toArray, List.getElem_cons_zero, List.getElem_cons_succ, List.setIfInBounds_toArray, List.set_cons_zero, List.set_cons_succ]
          have B5 := Lib.hid (below_of_le b5 hN0)
          clear b5
          refine wpAnyH_take (i := 2) (v := ?_) rfl (by kernel_rfl) (by kernel_rfl) (by kernel_rfl) (fun _ _ _ h => h) (Or.inl ⟨by rfl, ?_⟩) (by assumption) ?_
          rotate_left
          first | (focus ((intro w hSw; (try dsimp only at hSw); go_simp); (try with_reducible rfl); done)) | fail
          try simp only [Act.put, List.getElem_toArray, List.getElem_cons_zero, List.getElem_cons_succ, List.setIfInBounds_toArray, List.set_cons_zero, List.set_cons_succ]
          refine wpAnyH_take (i := 3) (v := ?_) rfl (by kernel_rfl) (by kernel_rfl) (by kernel_rfl) (fun _ _ _ h => h) (Or.inl ⟨by rfl, ?_⟩) (by assumption) ?_
          rotate_left
          first | (focus ((intro w hSw; (try dsimp only at hSw); go_simp); (try with_reducible rfl); done)) | fail
          try simp only [Act.put, List.getElem_toArray, List.getElem_cons_zero, List.getElem_cons_succ, List.setIfInBounds_toArray, List.set_cons_zero, List.set_cons_succ]
          refine wpAnyH_take (i := 4) (v := undef) rfl (by kernel_rfl) (by kernel_rfl) (by kernel_rfl) (fun _ _ _ h => h) (Or.inr ⟨by rfl, rfl⟩) (by assumption) ?_
          try simp only [Act.put, List.getElem_toArray, List.getElem_cons_zero, List.getElem_cons_succ, List.setIfInBounds_toArray, List.set_cons_zero, List.set_cons_succ]
          refine wpAnyH_take (i := 5) (v := undef) rfl (by kernel_rfl) (by kernel_rfl) (by kernel_rfl) (fun _ _ _ h => h) (Or.inr ⟨by rfl, rfl⟩) (by assumption) ?_
          try simp only [Act.put, List.getElem_toArray, List.getElem_cons_zero, List.getElem_cons_succ, List.setIfInBounds_toArray, List.set_cons_zero, List.set_cons_succ]
          refine wpAnyH_take (i := 6) (v := undef) rfl (by kernel_rfl) (by kernel_rfl) (by kernel_rfl) (fun _ _ _ h => h) (Or.inr ⟨by rfl, rfl⟩) (by assumption) ?_
          try simp only [Act.put, List.getElem_toArray, List.getElem_cons_zero, List.getElem_cons_succ, List.setIfInBounds_toArray, List.set_cons_zero, List.set_cons_succ]
          refine wpAnyH_take (i := 7) (v := undef) rfl (by kernel_rfl) (by kernel_rfl) (by kernel_rfl) (fun _ _ _ h => h) (Or.inr ⟨by rfl, rfl⟩) (by assumption) ?_
          try simp only [Act.put, List.getElem_toArray, List.getElem_cons_zero, List.getElem_cons_succ, List.setIfInBounds_toArray, List.set_cons_zero, List.set_cons_succ]
          refine wpAnyH_take (i := 8) (v := undef) rfl (by kernel_rfl) (by kernel_rfl) (by kernel_rfl) (fun _ _ _ h => h) (Or.inr ⟨by rfl, rfl⟩) (by assumption) ?_
          try simp only [Act.put, List.getElem_toArray, List.getElem_cons_zero, List.getElem_cons_succ, List.setIfInBounds_toArray, List.set_cons_zero, List.set_cons_succ]
          refine wpAnyH_take (i := 9) (v := undef) rfl (by kernel_rfl) (by kernel_rfl) (by kernel_rfl) (fun _ _ _ h => h) (Or.inr ⟨by rfl, rfl⟩) (by assumption) ?_
          try simp only [Act.put, List.getElem_toArray, List.getElem_cons_zero, List.getElem_cons_succ, List.setIfInBounds_toArray, List.set_cons_zero, List.set_cons_succ]
          refine wpAnyH_take (i := 10) (v := undef) rfl (by kernel_rfl) (by kernel_rfl) (by kernel_rfl) (fun _ _ _ h => h) (Or.inr ⟨by rfl, rfl⟩) (by assumption) ?_
          try simp only [Act.put, List.getElem_toArray, List.getElem_cons_zero, List.getElem_cons_succ, List.setIfInBounds_toArray, List.set_cons_zero, List.set_cons_succ]
          refine wpAnyH_take (i := 11) (v := undef) rfl (by kernel_rfl) (by kernel_rfl) (by kernel_rfl) (fun _ _ _ h => h) (Or.inr ⟨by rfl, rfl⟩) (by assumption) ?_
          try simp only [Act.put, List.getElem_toArray, List.getElem_cons_zero, List.getElem_cons_succ, List.setIfInBounds_toArray, List.set_cons_zero, List.set_cons_succ]
          refine wpAnyH_take (i := 12) (v := undef) rfl (by kernel_rfl) (by kernel_rfl) (by kernel_rfl) (fun _ _ _ h => h) (Or.inr ⟨by rfl, rfl⟩) (by assumption) ?_
          try simp only [Act.put, List.getElem_toArray, List.getElem_cons_zero, List.getElem_cons_succ, List.setIfInBounds_toArray, List.set_cons_zero, List.set_cons_succ]
          refine wpAnyH_take (i := 13) (v := undef) rfl (by kernel_rfl) (by kernel_rfl) (by kernel_rfl) (fun _ _ _ h => h) (Or.inr ⟨by rfl, rfl⟩) (by assumption) ?_
          try simp only [Act.put, List.getElem_toArray, List.getElem_cons_zero, List.getElem_cons_succ, List.setIfInBounds_toArray, List.set_cons_zero, List.set_cons_succ]
          refine wpAnyH_take (i := 14) (v := undef) rfl (by kernel_rfl) (by kernel_rfl) (by kernel_rfl) (fun _ _ _ h => h) (Or.inr ⟨by rfl, rfl⟩) (by assumption) ?_
          try simp only [Act.put, List.getElem_toArray, List.getElem_cons_zero, List.getElem_cons_succ, List.setIfInBounds_toArray, List.set_cons_zero, List.set_cons_succ]
          refine wpAnyH_take (i := 15) (v := undef) rfl (by kernel_rfl) (by kernel_rfl) (by kernel_rfl) (fun _ _ _ h => h) (Or.inr ⟨by rfl, rfl⟩) (by assumption) ?_
          try simp only [Act.put, List.getElem_toArray, List.getElem_cons_zero, List.getElem_cons_succ, List.setIfInBounds_toArray, List.set_cons_zero, List.set_cons_succ]
          refine wpAnyH_take (i := 16) (v := undef) rfl (by kernel_rfl) (by kernel_rfl) (by kernel_rfl) (fun _ _ _ h => h) (Or.inr ⟨by rfl, rfl⟩) (by assumption) ?_
          try simp only [Act.put, List.getElem_toArray, List.getElem_cons_zero, List.getElem_cons_succ, List.setIfInBounds_toArray, List.set_cons_zero, List.set_cons_succ]
          refine wpAnyH_take (i := 17) (v := undef) rfl (by kernel_rfl) (by kernel_rfl) (by kernel_rfl) (fun _ _ _ h => h) (Or.inr ⟨by rfl, rfl⟩) (by assumption) ?_
          try simp only [Act.put, List.getElem_toArray, List.getElem_cons_zero, List.getElem_cons_succ, List.setIfInBounds_toArray, List.set_cons_zero, List.set_cons_succ]
          refine wpAnyH_take (i := 18) (v := ?_) rfl (by kernel_rfl) (by kernel_rfl) (by kernel_rfl) (fun _ _ _ h => h) (Or.inl ⟨by rfl, ?_⟩) (by assumption) ?_
          rotate_left
          first | (focus ((intro w hSw; (try dsimp only at hSw); go_simp); (try with_reducible rfl); done)) | fail
          try simp only [Act.put, List.getElem_toArray, List.getElem_cons_zero, List.getElem_cons_succ, List.setIfInBounds_toArray, List.set_cons_zero, List.set_cons_succ]
          refine wpAnyH_done (by kernel_rfl) ?_ _
          go_wp2
          go_ret
          exact ⟨by rw [HV.out, riseG_no HXj.out HX.out]; rfl, HB1.out.drew.trans (below_of_le B5.out hNW)⟩
        | true =>
          rw [hr] at CR0
          have CR := Lib.hid CR0
          clear CR0
          have hr' := hr
          clear hr
          cases hl : dLt ((p.e.dot.1.1, p.e.dot.1.2), p.e.dot.2) ((x.e.dot.1.1, x.e.dot.1.2), x.e.dot.2) with
          | false =>
            rw [hl] at CL
            have HX := Lib.hid (show okEd (prevD none (eds Es) (k + 1)) x.e = false from by unfold okEd; rw [HPV.out]; show (evB x.e && dLt p.e.dot x.e.dot) = false; rw [show dLt p.e.dot x.e.dot = false from hl, Bool.and_false])
            clear hl hr'
            refine wp_region_held_drew (S := (fun W => W.rangeAt E 0 (evA x.e x.A x.c).toList ∧ W.cell? ⟨E, 0, none⟩ = some (.int .i64 x.e.dot.1.1) ∧ W.cell? ⟨E, 1, none⟩ = some (.int .i64 x.e.dot.1.2) ∧ W.cell? ⟨E, 2, none⟩ = some (.int .i64 x.e.dot.2) ∧ W.cell? ⟨b0, o0 + k * 19, none⟩ = some (.int .i64 p.e.dot.1.1) ∧ W.cell? ⟨b0, o0 + k * 19 + 1, none⟩ = some (.int .i64 p.e.dot.1.2) ∧ W.cell? ⟨b0, o0 + k * 19 + 2, none⟩ = some (.int .i64 p.e.dot.2))) (by kernel_rfl) ?_ (fun hHeld => ?_)
            · (try dsimp only); exact HS.out
            refine wpAnyH_take (i := 0) rfl (by kernel_rfl) (by kernel_rfl) (by kernel_rfl) (fun _ _ _ h => h) (take_range (by rfl) _ rfl rfl (fun W h => h.1) Tryz.underlying59 rfl (by kernel_rfl)) (by assumption) ?_
            try simp only [Act.put, List.getElem_toArray, List.getElem_cons_zero, List.setIfInBounds_toArray, List.set_cons_zero, List.set_cons_succ]
            refine wpAnyH_ready (rs := [1]) (by kernel_rfl) (by simp) ?_
            refine AllReadyH.cons rfl (fun K hK => ?_) AllReadyH.nil
            go_simp
            refine (CR.out _ (MO.out _ (Below.drew (Below.refl _ _)))).mono ?_; rintro r w5 ⟨rfl, b5⟩
            go_wp2_with fail
            refine hK.out _ _ ?_ (fun hHeld => ?_)
            · (try dsimp only); exact ⟨range_below hHeld.1 (below_of_le b5 hN0) hEl, ((below_of_le b5 hN0).cell (show _ < _ from hEl)).trans hHeld.2.1, ((below_of_le b5 hN0).cell (show _ < _ from hEl)).trans hHeld.2.2.1, ((below_of_le b5 hN0).cell (show _ < _ from hEl)).trans hHeld.2.2.2.1, ((below_of_le b5 hN0).cell (show _ < _ from hbl)).trans hHeld.2.2.2.2.1, ((below_of_le b5 hN0).cell (show _ < _ from hbl)).trans hHeld.2.2.2.2.2.1, ((below_of_le b5 hN0).cell (show _ < _ from hbl)).trans hHeld.2.2.2.2.2.2⟩
            clear hK K
            try simp only [Act.put, List.getElem_toArray, List.getElem_cons_zero, List.getElem_cons_succ, List.setIfInBounds_toArray, List.set_cons_zero, List.set_cons_succ]
            have B5 := Lib.hid (below_of_le b5 hN0)
            clear b5
            refine wpAnyH_take (i := 2) (v := ?_) rfl (by kernel_rfl) (by kernel_rfl) (by kernel_rfl) (fun _ _ _ h => h) (Or.inl ⟨by rfl, ?_⟩) (by assumption) ?_
            rotate_left
            first | (focus ((intro w hSw; (try dsimp only at hSw); go_simp); (try with_reducible rfl); done)) | fail
            try simp only [Act.put, List.getElem_toArray, List.getElem_cons_zero, List.getElem_cons_succ, List.setIfInBounds_toArray, List.set_cons_zero, List.set_cons_succ]
            refine wpAnyH_take (i := 3) (v := ?_) rfl (by kernel_rfl) (by kernel_rfl) (by kernel_rfl) (fun _ _ _ h => h) (Or.inl ⟨by rfl, ?_⟩) (by assumption) ?_
            rotate_left
            first | (focus ((intro w hSw; (try dsimp only at hSw); go_simp); (try with_reducible rfl); done)) | fail
            try simp only [Act.put, List.getElem_toArray, List.getElem_cons_zero, List.getElem_cons_succ, List.setIfInBounds_toArray, List.set_cons_zero, List.set_cons_succ]
            refine wpAnyH_take (i := 4) (v := ?_) rfl (by kernel_rfl) (by kernel_rfl) (by kernel_rfl) (fun _ _ _ h => h) (Or.inl ⟨by rfl, ?_⟩) (by assumption) ?_
            rotate_left
            first | (focus ((intro w hSw; (try dsimp only at hSw); go_simp); (try with_reducible rfl); done)) | fail
            try simp only [Act.put, List.getElem_toArray, List.getElem_cons_zero, List.getElem_cons_succ, List.setIfInBounds_toArray, List.set_cons_zero, List.set_cons_succ]
            refine wpAnyH_take (i := 5) (v := ?_) rfl (by kernel_rfl) (by kernel_rfl) (by kernel_rfl) (fun _ _ _ h => h) (Or.inl ⟨by rfl, ?_⟩) (by assumption) ?_
            rotate_left
            first | (focus ((intro w hSw; (try dsimp only at hSw); go_simp); (try with_reducible rfl); done)) | fail
            try simp only [Act.put, List.getElem_toArray, List.getElem_cons_zero, List.getElem_cons_succ, List.setIfInBounds_toArray, List.set_cons_zero, List.set_cons_succ]
            refine wpAnyH_take (i := 6) (v := ?_) rfl (by kernel_rfl) (by kernel_rfl) (by kernel_rfl) (fun _ _ _ h => h) (Or.inl ⟨by rfl, ?_⟩) (by assumption) ?_
            rotate_left
            first | (focus ((intro w hSw; (try dsimp only at hSw); go_simp); (try with_reducible rfl); done)) | fail
            try simp only [Act.put, List.getElem_toArray, List.getElem_cons_zero, List.getElem_cons_succ, List.setIfInBounds_toArray, List.set_cons_zero, List.set_cons_succ]
            refine wpAnyH_take (i := 7) (v := ?_) rfl (by kernel_rfl) (by kernel_rfl) (by kernel_rfl) (fun _ _ _ h => h) (Or.inl ⟨by rfl, ?_⟩) (by assumption) ?_
            rotate_left
            first | (focus ((intro w hSw; (try dsimp only at hSw); go_simp); (try with_reducible rfl); done)) | fail
            try simp only [Act.put, List.getElem_toArray, List.getElem_cons_zero, List.getElem_cons_succ, List.setIfInBounds_toArray, List.set_cons_zero, List.set_cons_succ]
            refine wpAnyH_take (i := 8) (v := ?_) rfl (by kernel_rfl) (by kernel_rfl) (by kernel_rfl) (fun _ _ _ h => h) (Or.inl ⟨by rfl, ?_⟩) (by assumption) ?_
            rotate_left
            first | (focus ((intro w hSw; (try dsimp only at hSw); go_simp); (try with_reducible rfl); done)) | fail
            try simp only [Act.put, List.getElem_toArray, List.getElem_cons_zero, List.getElem_cons_succ, List.setIfInBounds_toArray, List.set_cons_zero, List.set_cons_succ]
            refine wpAnyH_take (i := 9) (v := ?_) rfl (by kernel_rfl) (by kernel_rfl) (by kernel_rfl) (fun _ _ _ h => h) (Or.inl ⟨by rfl, ?_⟩) (by assumption) ?_
            rotate_left
            first | (focus ((intro w hSw; (try dsimp only at hSw); go_simp); (try with_reducible rfl); done)) | fail
            try simp only [Act.put, List.getElem_toArray, List.getElem_cons_zero, List.getElem_cons_succ, List.setIfInBounds_toArray, List.set_cons_zero, List.set_cons_succ]
            refine wpAnyH_take (i := 10) (v := ?_) rfl (by kernel_rfl) (by kernel_rfl) (by kernel_rfl) (fun _ _ _ h => h) (Or.inl ⟨by rfl, ?_⟩) (by assumption) ?_
            rotate_left
            first | (focus ((intro w hSw; (try dsimp only at hSw); go_simp); (try with_reducible rfl); done)) | fail
            try simp only [Act.put, List.getElem_toArray, List.getElem_cons_zero, List.getElem_cons_succ, List.setIfInBounds_toArray, List.set_cons_zero, List.set_cons_succ]
            refine wpAnyH_take (i := 11) (v := ?_) rfl (by kernel_rfl) (by kernel_rfl) (by kernel_rfl) (fun _ _ _ h => h) (Or.inl ⟨by rfl, ?_⟩) (by assumption) ?_
            rotate_left
            first | (focus ((intro w hSw; (try dsimp only at hSw); go_simp); (try with_reducible rfl); done)) | fail
            try simp only [Act.put, List.getElem_toArray, List.getElem_cons_zero, List.getElem_cons_succ, List.setIfInBounds_toArray, List.set_cons_zero, List.set_cons_succ]
            refine wpAnyH_take (i := 12) (v := ?_) rfl (by kernel_rfl) (by kernel_rfl) (by kernel_rfl) (fun _ _ _ h => h) (Or.inl ⟨by rfl, ?_⟩) (by assumption) ?_
            rotate_left
            first | (focus ((intro w hSw; (try dsimp only at hSw); go_simp); (try with_reducible rfl); done)) | fail
            try simp only [Act.put, List.getElem_toArray, List.getElem_cons_zero, List.getElem_cons_succ, List.setIfInBounds_toArray, List.set_cons_zero, List.set_cons_succ]
            refine wpAnyH_take (i := 13) (v := ?_) rfl (by kernel_rfl) (by kernel_rfl) (by kernel_rfl) (fun _ _ _ h => h) (Or.inl ⟨by rfl, ?_⟩) (by assumption) ?_
            rotate_left
            first | (focus ((intro w hSw; (try dsimp only at hSw); go_simp); (try with_reducible rfl); done)) | fail
            try simp only [Act.put, List.getElem_toArray, List.getElem_cons_zero, List.getElem_cons_succ, List.setIfInBounds_toArray, List.set_cons_zero, List.set_cons_succ]
            refine wpAnyH_take (i := 14) (v := ?_) rfl (by kernel_rfl) (by kernel_rfl) (by kernel_rfl) (fun _ _ _ h => h) (Or.inl ⟨by rfl, ?_⟩) (by assumption) ?_
            rotate_left
            first | (focus ((intro w hSw; (try dsimp only at hSw); go_simp); (try with_reducible rfl); done)) | fail
            try simp only [Act.put, List.getElem_toArray, List.getElem_cons_zero, List.getElem_cons_succ, List.setIfInBounds_toArray, List.set_cons_zero, List.set_cons_succ]
            refine wpAnyH_ready (rs := [15]) (by kernel_rfl) (by simp) ?_
            refine AllReadyH.cons rfl (fun K hK => ?_) AllReadyH.nil
            go_simp
            refine (CL.out _).mono ?_; rintro r w6 ⟨rfl, b6⟩
            go_wp2_with fail
            refine hK.out _ _ ?_ (fun hHeld => ?_)
            · (try dsimp only); exact ⟨range_below hHeld.1 (below_of_le b6 (Nat.le_trans hN0 B5.out.size)) hEl, ((below_of_le b6 (Nat.le_trans hN0 B5.out.size)).cell (show _ < _ from hEl)).trans hHeld.2.1, ((below_of_le b6 (Nat.le_trans hN0 B5.out.size)).cell (show _ < _ from hEl)).trans hHeld.2.2.1, ((below_of_le b6 (Nat.le_trans hN0 B5.out.size)).cell (show _ < _ from hEl)).trans hHeld.2.2.2.1, ((below_of_le b6 (Nat.le_trans hN0 B5.out.size)).cell (show _ < _ from hbl)).trans hHeld.2.2.2.2.1, ((below_of_le b6 (Nat.le_trans hN0 B5.out.size)).cell (show _ < _ from hbl)).trans hHeld.2.2.2.2.2.1, ((below_of_le b6 (Nat.le_trans hN0 B5.out.size)).cell (show _ < _ from hbl)).trans hHeld.2.2.2.2.2.2⟩
            clear hK K
            try simp only [Act.put, List.getElem_toArray, List.getElem_cons_zero, List.getElem_cons_succ, List.setIfInBounds_toArray, List.set_cons_zero, List.set_cons_succ]
            have B6 := Lib.hid (B5.out.trans (below_of_le b6 (Nat.le_trans hN0 B5.out.size)))
            clear b6
            refine wpAnyH_take (i := 16) (v := ?_) rfl (by kernel_rfl) (by kernel_rfl) (by kernel_rfl) (fun _ _ _ h => h) (Or.inl ⟨by rfl, ?_⟩) (by assumption) ?_
            rotate_left
            first | (focus ((intro w hSw; (try dsimp only at hSw); go_simp); (try with_reducible rfl); done)) | fail
            try simp only [Act.put, List.getElem_toArray, List.getElem_cons_zero, List.getElem_cons_succ, List.setIfInBounds_toArray, List.set_cons_zero, List.set_cons_succ]
            refine wpAnyH_take (i := 17) (v := ?_) rfl (by kernel_rfl) (by kernel_rfl) (by kernel_rfl) (fun _ _ _ h => h) (Or.inl ⟨by rfl, ?_⟩) (by assumption) ?_
            rotate_left
            first | (focus ((intro w hSw; (try dsimp only at hSw); go_simp); (try with_reducible rfl); done)) | fail
            try simp only [Act.put, List.getElem_toArray, List.getElem_cons_zero, List.getElem_cons_succ, List.setIfInBounds_toArray, List.set_cons_zero, List.set_cons_succ]
            refine wpAnyH_take (i := 18) (v := ?_) rfl (by kernel_rfl) (by kernel_rfl) (by kernel_rfl) (fun _ _ _ h => h) (Or.inl ⟨by rfl, ?_⟩) (by assumption) ?_
            rotate_left
            first | (focus ((intro w hSw; (try dsimp only at hSw); go_simp); (try with_reducible rfl); done)) | fail
            try simp only [Act.put, List.getElem_toArray, List.getElem_cons_zero, List.getElem_cons_succ, List.setIfInBounds_toArray, List.set_cons_zero, List.set_cons_succ]
            refine wpAnyH_done (by kernel_rfl) ?_ _
            go_wp2
            go_ret
            exact ⟨by rw [HV.out, riseG_no HXj.out HX.out]; rfl, HB1.out.drew.trans (below_of_le B6.out hNW)⟩
          | true =>
            rw [hl] at CL
            have HX := Lib.hid (show okEd (prevD none (eds Es) (k + 1)) x.e = true from by unfold okEd; rw [HPV.out]; show (evB x.e && dLt p.e.dot x.e.dot) = true; rw [hr', show dLt p.e.dot x.e.dot = true from hl]; rfl)
            clear hl hr'
            refine wp_region_held_drew (S := (fun W => W.rangeAt E 0 (evA x.e x.A x.c).toList ∧ W.cell? ⟨E, 0, none⟩ = some (.int .i64 x.e.dot.1.1) ∧ W.cell? ⟨E, 1, none⟩ = some (.int .i64 x.e.dot.1.2) ∧ W.cell? ⟨E, 2, none⟩ = some (.int .i64 x.e.dot.2) ∧ W.cell? ⟨b0, o0 + k * 19, none⟩ = some (.int .i64 p.e.dot.1.1) ∧ W.cell? ⟨b0, o0 + k * 19 + 1, none⟩ = some (.int .i64 p.e.dot.1.2) ∧ W.cell? ⟨b0, o0 + k * 19 + 2, none⟩ = some (.int .i64 p.e.dot.2))) (by kernel_rfl) ?_ (fun hHeld => ?_)
            · (try dsimp only); exact HS.out
            refine wpAnyH_take (i := 0) rfl (by kernel_rfl) (by kernel_rfl) (by kernel_rfl) (fun _ _ _ h => h) (take_range (by rfl) _ rfl rfl (fun W h => h.1) Tryz.underlying59 rfl (by kernel_rfl)) (by assumption) ?_
            try simp only [Act.put, List.getElem_toArray, List.getElem_cons_zero, List.setIfInBounds_toArray, List.set_cons_zero, List.set_cons_succ]
            refine wpAnyH_ready (rs := [1]) (by kernel_rfl) (by simp) ?_
            refine AllReadyH.cons rfl (fun K hK => ?_) AllReadyH.nil
            go_simp
            refine (CR.out _ (MO.out _ (Below.drew (Below.refl _ _)))).mono ?_; rintro r w5 ⟨rfl, b5⟩
            go_wp2_with fail
            refine hK.out _ _ ?_ (fun hHeld => ?_)
            · (try dsimp only); exact ⟨range_below hHeld.1 (below_of_le b5 hN0) hEl, ((below_of_le b5 hN0).cell (show _ < _ from hEl)).trans hHeld.2.1, ((below_of_le b5 hN0).cell (show _ < _ from hEl)).trans hHeld.2.2.1, ((below_of_le b5 hN0).cell (show _ < _ from hEl)).trans hHeld.2.2.2.1, ((below_of_le b5 hN0).cell (show _ < _ from hbl)).trans hHeld.2.2.2.2.1, ((below_of_le b5 hN0).cell (show _ < _ from hbl)).trans hHeld.2.2.2.2.2.1, ((below_of_le b5 hN0).cell (show _ < _ from hbl)).trans hHeld.2.2.2.2.2.2⟩
            clear hK K
            try simp only [Act.put, List.getElem_toArray, List.getElem_cons_zero, List.getElem_cons_succ, List.setIfInBounds_toArray, List.set_cons_zero, List.set_cons_succ]
            have B5 := Lib.hid (below_of_le b5 hN0)
            clear b5
            refine wpAnyH_take (i := 2) (v := ?_) rfl (by kernel_rfl) (by kernel_rfl) (by kernel_rfl) (fun _ _ _ h => h) (Or.inl ⟨by rfl, ?_⟩) (by assumption) ?_
            rotate_left
            first | (focus ((intro w hSw; (try dsimp only at hSw); go_simp); (try with_reducible rfl); done)) | fail
            try simp only [Act.put, List.getElem_toArray, List.getElem_cons_zero, List.getElem_cons_succ, List.setIfInBounds_toArray, List.set_cons_zero, List.set_cons_succ]
            refine wpAnyH_take (i := 3) (v := ?_) rfl (by kernel_rfl) (by kernel_rfl) (by kernel_rfl) (fun _ _ _ h => h) (Or.inl ⟨by rfl, ?_⟩) (by assumption) ?_
            rotate_left
            first | (focus ((intro w hSw; (try dsimp only at hSw); go_simp); (try with_reducible rfl); done)) | fail
            try simp only [Act.put, List.getElem_toArray, List.getElem_cons_zero, List.getElem_cons_succ, List.setIfInBounds_toArray, List.set_cons_zero, List.set_cons_succ]
            refine wpAnyH_take (i := 4) (v := ?_) rfl (by kernel_rfl) (by kernel_rfl) (by kernel_rfl) (fun _ _ _ h => h) (Or.inl ⟨by rfl, ?_⟩) (by assumption) ?_
            rotate_left
            first | (focus ((intro w hSw; (try dsimp only at hSw); go_simp); (try with_reducible rfl); done)) | fail
            try simp only [Act.put, List.getElem_toArray, List.getElem_cons_zero, List.getElem_cons_succ, List.setIfInBounds_toArray, List.set_cons_zero, List.set_cons_succ]
            refine wpAnyH_take (i := 5) (v := ?_) rfl (by kernel_rfl) (by kernel_rfl) (by kernel_rfl) (fun _ _ _ h => h) (Or.inl ⟨by rfl, ?_⟩) (by assumption) ?_
            rotate_left
            first | (focus ((intro w hSw; (try dsimp only at hSw); go_simp); (try with_reducible rfl); done)) | fail
            try simp only [Act.put, List.getElem_toArray, List.getElem_cons_zero, List.getElem_cons_succ, List.setIfInBounds_toArray, List.set_cons_zero, List.set_cons_succ]
            refine wpAnyH_take (i := 6) (v := ?_) rfl (by kernel_rfl) (by kernel_rfl) (by kernel_rfl) (fun _ _ _ h => h) (Or.inl ⟨by rfl, ?_⟩) (by assumption) ?_
            rotate_left
            first | (focus ((intro w hSw; (try dsimp only at hSw); go_simp); (try with_reducible rfl); done)) | fail
            try simp only [Act.put, List.getElem_toArray, List.getElem_cons_zero, List.getElem_cons_succ, List.setIfInBounds_toArray, List.set_cons_zero, List.set_cons_succ]
            refine wpAnyH_take (i := 7) (v := ?_) rfl (by kernel_rfl) (by kernel_rfl) (by kernel_rfl) (fun _ _ _ h => h) (Or.inl ⟨by rfl, ?_⟩) (by assumption) ?_
            rotate_left
            first | (focus ((intro w hSw; (try dsimp only at hSw); go_simp); (try with_reducible rfl); done)) | fail
            try simp only [Act.put, List.getElem_toArray, List.getElem_cons_zero, List.getElem_cons_succ, List.setIfInBounds_toArray, List.set_cons_zero, List.set_cons_succ]
            refine wpAnyH_take (i := 8) (v := ?_) rfl (by kernel_rfl) (by kernel_rfl) (by kernel_rfl) (fun _ _ _ h => h) (Or.inl ⟨by rfl, ?_⟩) (by assumption) ?_
            rotate_left
            first | (focus ((intro w hSw; (try dsimp only at hSw); go_simp); (try with_reducible rfl); done)) | fail
            try simp only [Act.put, List.getElem_toArray, List.getElem_cons_zero, List.getElem_cons_succ, List.setIfInBounds_toArray, List.set_cons_zero, List.set_cons_succ]
            refine wpAnyH_take (i := 9) (v := ?_) rfl (by kernel_rfl) (by kernel_rfl) (by kernel_rfl) (fun _ _ _ h => h) (Or.inl ⟨by rfl, ?_⟩) (by assumption) ?_
            rotate_left
            first | (focus ((intro w hSw; (try dsimp only at hSw); go_simp); (try with_reducible rfl); done)) | fail
            try simp only [Act.put, List.getElem_toArray, List.getElem_cons_zero, List.getElem_cons_succ, List.setIfInBounds_toArray, List.set_cons_zero, List.set_cons_succ]
            refine wpAnyH_take (i := 10) (v := ?_) rfl (by kernel_rfl) (by kernel_rfl) (by kernel_rfl) (fun _ _ _ h => h) (Or.inl ⟨by rfl, ?_⟩) (by assumption) ?_
            rotate_left
            first | (focus ((intro w hSw; (try dsimp only at hSw); go_simp); (try with_reducible rfl); done)) | fail
            try simp only [Act.put, List.getElem_toArray, List.getElem_cons_zero, List.getElem_cons_succ, List.setIfInBounds_toArray, List.set_cons_zero, List.set_cons_succ]
            refine wpAnyH_take (i := 11) (v := ?_) rfl (by kernel_rfl) (by kernel_rfl) (by kernel_rfl) (fun _ _ _ h => h) (Or.inl ⟨by rfl, ?_⟩) (by assumption) ?_
            rotate_left
            first | (focus ((intro w hSw; (try dsimp only at hSw); go_simp); (try with_reducible rfl); done)) | fail
            try simp only [Act.put, List.getElem_toArray, List.getElem_cons_zero, List.getElem_cons_succ, List.setIfInBounds_toArray, List.set_cons_zero, List.set_cons_succ]
            refine wpAnyH_take (i := 12) (v := ?_) rfl (by kernel_rfl) (by kernel_rfl) (by kernel_rfl) (fun _ _ _ h => h) (Or.inl ⟨by rfl, ?_⟩) (by assumption) ?_
            rotate_left
            first | (focus ((intro w hSw; (try dsimp only at hSw); go_simp); (try with_reducible rfl); done)) | fail
            try simp only [Act.put, List.getElem_toArray, List.getElem_cons_zero, List.getElem_cons_succ, List.setIfInBounds_toArray, List.set_cons_zero, List.set_cons_succ]
            refine wpAnyH_take (i := 13) (v := ?_) rfl (by kernel_rfl) (by kernel_rfl) (by kernel_rfl) (fun _ _ _ h => h) (Or.inl ⟨by rfl, ?_⟩) (by assumption) ?_
            rotate_left
            first | (focus ((intro w hSw; (try dsimp only at hSw); go_simp); (try with_reducible rfl); done)) | fail
            try simp only [Act.put, List.getElem_toArray, List.getElem_cons_zero, List.getElem_cons_succ, List.setIfInBounds_toArray, List.set_cons_zero, List.set_cons_succ]
            refine wpAnyH_take (i := 14) (v := ?_) rfl (by kernel_rfl) (by kernel_rfl) (by kernel_rfl) (fun _ _ _ h => h) (Or.inl ⟨by rfl, ?_⟩) (by assumption) ?_
            rotate_left
            first | (focus ((intro w hSw; (try dsimp only at hSw); go_simp); (try with_reducible rfl); done)) | fail
            try simp only [Act.put, List.getElem_toArray, List.getElem_cons_zero, List.getElem_cons_succ, List.setIfInBounds_toArray, List.set_cons_zero, List.set_cons_succ]
            refine wpAnyH_ready (rs := [15]) (by kernel_rfl) (by simp) ?_
            refine AllReadyH.cons rfl (fun K hK => ?_) AllReadyH.nil
            go_simp
            refine (CL.out _).mono ?_; rintro r w6 ⟨rfl, b6⟩
            go_wp2_with fail
            refine hK.out _ _ ?_ (fun hHeld => ?_)
            · (try dsimp only); exact ⟨range_below hHeld.1 (below_of_le b6 (Nat.le_trans hN0 B5.out.size)) hEl, ((below_of_le b6 (Nat.le_trans hN0 B5.out.size)).cell (show _ < _ from hEl)).trans hHeld.2.1, ((below_of_le b6 (Nat.le_trans hN0 B5.out.size)).cell (show _ < _ from hEl)).trans hHeld.2.2.1, ((below_of_le b6 (Nat.le_trans hN0 B5.out.size)).cell (show _ < _ from hEl)).trans hHeld.2.2.2.1, ((below_of_le b6 (Nat.le_trans hN0 B5.out.size)).cell (show _ < _ from hbl)).trans hHeld.2.2.2.2.1, ((below_of_le b6 (Nat.le_trans hN0 B5.out.size)).cell (show _ < _ from hbl)).trans hHeld.2.2.2.2.2.1, ((below_of_le b6 (Nat.le_trans hN0 B5.out.size)).cell (show _ < _ from hbl)).trans hHeld.2.2.2.2.2.2⟩
            clear hK K
            try simp only [Act.put, List.getElem_toArray, List.getElem_cons_zero, List.getElem_cons_succ, List.setIfInBounds_toArray, List.set_cons_zero, List.set_cons_succ]
            have B6 := Lib.hid (B5.out.trans (below_of_le b6 (Nat.le_trans hN0 B5.out.size)))
            clear b6
            refine wpAnyH_take (i := 16) (v := ?_) rfl (by kernel_rfl) (by kernel_rfl) (by kernel_rfl) (fun _ _ _ h => h) (Or.inl ⟨by rfl, ?_⟩) (by assumption) ?_
            rotate_left
            first | (focus ((intro w hSw; (try dsimp only at hSw); go_simp); (try with_reducible rfl); done)) | fail
            try simp only [Act.put, List.getElem_toArray, List.getElem_cons_zero, List.getElem_cons_succ, List.setIfInBounds_toArray, List.set_cons_zero, List.set_cons_succ]
            refine wpAnyH_take (i := 17) (v := ?_) rfl (by kernel_rfl) (by kernel_rfl) (by kernel_rfl) (fun _ _ _ h => h) (Or.inl ⟨by rfl, ?_⟩) (by assumption) ?_
            rotate_left
            first | (focus ((intro w hSw; (try dsimp only at hSw); go_simp); (try with_reducible rfl); done)) | fail
            try simp only [Act.put, List.getElem_toArray, List.getElem_cons_zero, List.getElem_cons_succ, List.setIfInBounds_toArray, List.set_cons_zero, List.set_cons_succ]
            refine wpAnyH_take (i := 18) (v := ?_) rfl (by kernel_rfl) (by kernel_rfl) (by kernel_rfl) (fun _ _ _ h => h) (Or.inl ⟨by rfl, ?_⟩) (by assumption) ?_
            rotate_left
            first | (focus ((intro w hSw; (try dsimp only at hSw); go_simp); (try with_reducible rfl); done)) | fail
            try simp only [Act.put, List.getElem_toArray, List.getElem_cons_zero, List.getElem_cons_succ, List.setIfInBounds_toArray, List.set_cons_zero, List.set_cons_succ]
            refine wpAnyH_done (by kernel_rfl) ?_ _
            go_wp2
            go_roundw
            case rel => exact ⟨_, by omega, by go_num, okE_step HK.out.1 HXj.out HX.out, HB1.out.drew.trans (below_of_le B6.out hNW)⟩
            case measure => simp [intOf]; omega
    · have hj' : n = j := by omega
      subst hj'
      have HF := Lib.hid (show riseB (eds Es) = decide (n ≤ 256) by rw [HV.out, riseG_yes (fun k x hx => HK.out.1 k x (by have := (List.getElem?_eq_some_iff.1 hx).1; have h2 := HLn.out; simp [eds] at this; omega) hx)]; rfl)
      by_cases h256 : n ≤ 256
      · have t1 : decide ((n : Int) ≤ 256) = true := decide_eq_true (by omega)
        rw [decide_eq_true h256] at HF
        go_wp2
        go_ret
        exact ⟨ret_bool HF.out.symm, HK.out.2⟩
      · have t1 : decide ((n : Int) ≤ 256) = false := decide_eq_false (by omega)
        rw [decide_eq_false h256] at HF
        go_wp2
        go_ret
        exact ⟨ret_bool HF.out.symm, HK.out.2⟩
end Go.Proofs.YtpakmeegldgjmaaGreat
/- Layer 35 (msg): messages in memory; Right. -/
namespace Go.Proofs.YtpakmeegldgjmaaGreat
open Go.RowKit
set_option linter.unusedVariables false
set_option linter.unusedSimpArgs false
set_option maxRecDepth 100000
attribute [local go_sem ↓] Go.wp_at_zero Go.wp_at_succ
attribute [local go_sem] bs_size bs_list bs_nil_list

/-- A message, and where its marks and events lie. -/
structure Ml where
  kind : Int
  frm : Int
  dst : Int
  marks : List Dt
  Am : Option Addr
  cm : Nat
  es : List El
  Ae : Option Addr
  ce : Nat
/-- What it says. -/
def mlM (x : Ml) : Md := ⟨x.kind, x.frm, x.dst, x.marks, eds x.es⟩
def mlC (x : Ml) : Array Value := #[.int .i64 x.kind, .int .i64 x.frm, .int .i64 x.dst, .slice x.Am x.marks.length x.cm, .slice x.Ae x.es.length x.ce]
structure MlAt (w : World) (B : Nat) (x : Ml) : Prop where
  mks : Ds w B x.Am x.marks
  es : EsAt w B x.Ae x.es
theorem MlAt.below {w w' : World} {B : Nat} {x : Ml} (h : MlAt w B x) (b : Below B w w') : MlAt w' B x := ⟨Ds.below h.mks b, h.es.below b⟩
theorem MlAt.more {w : World} {B B' : Nat} {x : Ml} (h : MlAt w B x) (b : B ≤ B') : MlAt w B' x := ⟨Ds.more h.mks b, h.es.more b⟩
theorem MlAt.up {w w' : World} {x : Ml} (h : MlAt w w.heap.size x) (b : Below w.heap.size w w') : MlAt w' w'.heap.size x := (h.below b).more b.size
/-- Is a message short? -/
structure MlOk (x : Ml) : Prop where
  sh : shorts x.es
  lm : x.marks.length ≤ 1000
  le : x.es.length ≤ 1000000
set_option maxHeartbeats 8000000 in
theorem mright_any (x : Ml) (w : World) (h : MlAt w w.heap.size x) (ok : MlOk x) : Calls Tryz.prog 20 #[.agg (mlC x)] w fun r w' => r = .returned (.bool (msB (mlM x))) ∧ Below w.heap.size w w' := by
  have CR0 : ∀ (W : World), Below w.heap.size w W → Calls Tryz.prog 59 #[.slice x.Ae x.es.length x.ce] W fun r w' => r = .returned (.bool (riseB (eds x.es))) ∧ Below W.heap.size W w' := fun W hb => rising_any x.es x.Ae x.ce W (h.es.up hb) ok.sh ok.le
  have CK := Lib.hid (fun (W : World) (hb : Below w.heap.size w W) => vccheck_any W x.Am x.cm x.marks (MsAt.up h.mks hb) (by have := ok.lm; omega))
  have CF := fun w => device_any x.frm w
  have CT := fun w => device_any x.dst w
  have hb := (Below.refl w.heap.size w).alloc (Nat.le_refl _) (.cells (mlC x) 30)
  have hlm := ok.lm
  have hle := ok.le
  obtain ⟨kind, frm, dst, marks, Am, cm, es, Ae, ce⟩ := x
  clear h ok
  unfold mlC at hb ⊢
  simp only at CR0 CK CF CT hb hlm hle ⊢
  have HVM := Lib.hid (show (decide (marks = [])) = decide (marks.length = 0) by rw [Bool.eq_iff_iff, decide_eq_true_eq, decide_eq_true_eq]; exact List.length_eq_zero_iff.symm)
  have HVE := Lib.hid (show (decide (eds es = [])) = decide (es.length = 0) by rw [Bool.eq_iff_iff, decide_eq_true_eq, decide_eq_true_eq]; unfold eds; rw [List.map_eq_nil_iff]; exact List.length_eq_zero_iff.symm)
  generalize hnm : marks.length = nm at *
  generalize hne : es.length = ne at *
  have HB := Lib.hid hb
  clear hnm hne hb
  cases h1 : devB frm with
  | false =>
    rw [h1] at CF
    have CF := Lib.hid CF
    have HX := Lib.hid (show msB (mlM ⟨kind, frm, dst, marks, Am, cm, es, Ae, ce⟩) = false from by unfold msB mlM; simp only; rw [h1]; simp)
    clear h1
    go_enter Tryz.func20, Tryz.ntmps20
    go_wp2_with fail
    refine (CF.out _).mono ?_; rintro r wq ⟨rfl, rfl⟩
    go_wp2
    go_ret
    exact ⟨ret_bool HX.out.symm, HB.out⟩
  | true =>
    rw [h1] at CF
    have CF := Lib.hid CF
    cases h2 : devB dst with
    | false =>
      rw [h2] at CT
      have CT := Lib.hid CT
      have HX := Lib.hid (show msB (mlM ⟨kind, frm, dst, marks, Am, cm, es, Ae, ce⟩) = false from by unfold msB mlM; simp only; rw [h2]; simp)
      clear h1 h2
      go_enter Tryz.func20, Tryz.ntmps20
      go_wp2_with fail
      refine (CF.out _).mono ?_; rintro r wq ⟨rfl, rfl⟩
      go_wp2_with fail
      refine (CT.out _).mono ?_; rintro r wq ⟨rfl, rfl⟩
      go_wp2
      go_ret
      exact ⟨ret_bool HX.out.symm, HB.out⟩
    | true =>
      rw [h2] at CT
      have CT := Lib.hid CT
      by_cases h3 : frm = dst
      · have HX := Lib.hid (show msB (mlM ⟨kind, frm, dst, marks, Am, cm, es, Ae, ce⟩) = false from by unfold msB mlM; simp only; rw [h1, h2, decide_eq_false (show ¬ frm ≠ dst from fun h => h h3)]; simp)
        have t3 : (frm == dst) = true := by simp [h3]
        clear h1 h2 h3
        go_enter Tryz.func20, Tryz.ntmps20
        go_wp2_with fail
        refine (CF.out _).mono ?_; rintro r wq ⟨rfl, rfl⟩
        go_wp2_with fail
        refine (CT.out _).mono ?_; rintro r wq ⟨rfl, rfl⟩
        go_wp2
        go_ret
        exact ⟨ret_bool HX.out.symm, HB.out⟩
      · have hd : devB frm && devB dst && decide (frm ≠ dst) := by rw [h1, h2, decide_eq_true h3]; rfl
        have t3 : (frm == dst) = false := by simp [h3]
        clear h1 h2 h3
        by_cases hk2 : kind = 2
        · have hk := hk2
          clear hk2
          subst hk
          have HM := Lib.hid (show msB (mlM ⟨2, frm, dst, marks, Am, cm, es, Ae, ce⟩) = (decide (nm = 0) && riseB (eds es)) from by unfold msB mlM; simp only; rw [hd, HVM.out]; rfl)
          clear hd HVM HVE
          by_cases hz : nm = 0
          · have tz : ((nm : Int) == 0) = true := by simp [hz]
            cases hr : riseB (eds es) with
            | false =>
              rw [hr] at CR0
              have CR := Lib.hid CR0
              have HX := Lib.hid (show _ = false from HM.out.trans (by rw [hr, Bool.and_false]))
              clear CR0 hr HM hz
              go_enter Tryz.func20, Tryz.ntmps20
              go_wp2_with fail
              refine (CF.out _).mono ?_; rintro r wq ⟨rfl, rfl⟩
              go_wp2_with fail
              refine (CT.out _).mono ?_; rintro r wq ⟨rfl, rfl⟩
              go_wp2_with fail
              refine (CR.out _ HB.out).mono ?_; rintro r w5 ⟨rfl, b5⟩
              have B5 := Lib.hid (HB.out.trans (below_of_le b5 (by simp)))
              clear b5
              go_wp2
              go_ret
              exact ⟨ret_bool HX.out.symm, B5.out⟩
            | true =>
              rw [hr] at CR0
              have CR := Lib.hid CR0
              have HX := Lib.hid (show _ = true from HM.out.trans (by rw [hr, hz]; rfl))
              clear CR0 hr HM hz
              go_enter Tryz.func20, Tryz.ntmps20
              go_wp2_with fail
              refine (CF.out _).mono ?_; rintro r wq ⟨rfl, rfl⟩
              go_wp2_with fail
              refine (CT.out _).mono ?_; rintro r wq ⟨rfl, rfl⟩
              go_wp2_with fail
              refine (CR.out _ HB.out).mono ?_; rintro r w5 ⟨rfl, b5⟩
              have B5 := Lib.hid (HB.out.trans (below_of_le b5 (by simp)))
              clear b5
              go_wp2
              go_ret
              exact ⟨ret_bool HX.out.symm, B5.out⟩
          · have tz : ((nm : Int) == 0) = false := by simp [hz]
            have HX := Lib.hid (show _ = false from HM.out.trans (by rw [decide_eq_false hz]; rfl))
            clear HM hz CR0
            go_enter Tryz.func20, Tryz.ntmps20
            go_wp2_with fail
            refine (CF.out _).mono ?_; rintro r wq ⟨rfl, rfl⟩
            go_wp2_with fail
            refine (CT.out _).mono ?_; rintro r wq ⟨rfl, rfl⟩
            go_wp2
            go_ret
            exact ⟨ret_bool HX.out.symm, HB.out⟩
        · by_cases hk1 : kind = 1
          · have hk := hk1
            clear hk1 hk2
            subst hk
            have HM := Lib.hid (show msB (mlM ⟨1, frm, dst, marks, Am, cm, es, Ae, ce⟩) = (decide (ne = 0) && decide (chkE marks = 0)) from by unfold msB mlM; simp only; rw [hd, HVE.out]; rfl)
            clear hd HVM HVE CR0
            by_cases hz : ne = 0
            · have tz : ((ne : Int) == 0) = true := by simp [hz]
              by_cases hc : chkE marks = 0
              · have tc : ((chkE marks : Int) == 0) = true := by simp [hc]
                have HX := Lib.hid (show _ = true from HM.out.trans (by rw [decide_eq_true hc, hz]; rfl))
                generalize chkE marks = ck at *
                clear HM hz hc
                go_enter Tryz.func20, Tryz.ntmps20
                go_wp2_with fail
                refine (CF.out _).mono ?_; rintro r wq ⟨rfl, rfl⟩
                go_wp2_with fail
                refine (CT.out _).mono ?_; rintro r wq ⟨rfl, rfl⟩
                go_wp2_with fail
                refine (CK.out _ HB.out).mono ?_; rintro r w5 ⟨rfl, b5⟩
                have B5 := Lib.hid (HB.out.trans (below_of_le b5 (by simp)))
                clear b5
                go_wp2
                go_ret
                exact ⟨ret_bool HX.out.symm, B5.out⟩
              · have tc : ((chkE marks : Int) == 0) = false := by simp [hc]
                have HX := Lib.hid (show _ = false from HM.out.trans (by rw [decide_eq_false hc, Bool.and_false]))
                generalize chkE marks = ck at *
                clear HM hz hc
                go_enter Tryz.func20, Tryz.ntmps20
                go_wp2_with fail
                refine (CF.out _).mono ?_; rintro r wq ⟨rfl, rfl⟩
                go_wp2_with fail
                refine (CT.out _).mono ?_; rintro r wq ⟨rfl, rfl⟩
                go_wp2_with fail
                refine (CK.out _ HB.out).mono ?_; rintro r w5 ⟨rfl, b5⟩
                have B5 := Lib.hid (HB.out.trans (below_of_le b5 (by simp)))
                clear b5
                go_wp2
                go_ret
                exact ⟨ret_bool HX.out.symm, B5.out⟩
            · have tz : ((ne : Int) == 0) = false := by simp [hz]
              have HX := Lib.hid (show _ = false from HM.out.trans (by rw [decide_eq_false hz]; rfl))
              clear HM hz
              go_enter Tryz.func20, Tryz.ntmps20
              go_wp2_with fail
              refine (CF.out _).mono ?_; rintro r wq ⟨rfl, rfl⟩
              go_wp2_with fail
              refine (CT.out _).mono ?_; rintro r wq ⟨rfl, rfl⟩
              go_wp2
              go_ret
              exact ⟨ret_bool HX.out.symm, HB.out⟩
          · by_cases hk3 : kind = 3
            · have hk := hk3
              clear hk1 hk2 hk3
              subst hk
              have HM := Lib.hid (show msB (mlM ⟨3, frm, dst, marks, Am, cm, es, Ae, ce⟩) = (decide (ne = 0) && decide (chkE marks = 0)) from by unfold msB mlM; simp only; rw [hd, HVE.out]; rfl)
              clear hd HVM HVE CR0
              by_cases hz : ne = 0
              · have tz : ((ne : Int) == 0) = true := by simp [hz]
                by_cases hc : chkE marks = 0
                · have tc : ((chkE marks : Int) == 0) = true := by simp [hc]
                  have HX := Lib.hid (show _ = true from HM.out.trans (by rw [decide_eq_true hc, hz]; rfl))
                  generalize chkE marks = ck at *
                  clear HM hz hc
                  go_enter Tryz.func20, Tryz.ntmps20
                  go_wp2_with fail
                  refine (CF.out _).mono ?_; rintro r wq ⟨rfl, rfl⟩
                  go_wp2_with fail
                  refine (CT.out _).mono ?_; rintro r wq ⟨rfl, rfl⟩
                  go_wp2_with fail
                  refine (CK.out _ HB.out).mono ?_; rintro r w5 ⟨rfl, b5⟩
                  have B5 := Lib.hid (HB.out.trans (below_of_le b5 (by simp)))
                  clear b5
                  go_wp2
                  go_ret
                  exact ⟨ret_bool HX.out.symm, B5.out⟩
                · have tc : ((chkE marks : Int) == 0) = false := by simp [hc]
                  have HX := Lib.hid (show _ = false from HM.out.trans (by rw [decide_eq_false hc, Bool.and_false]))
                  generalize chkE marks = ck at *
                  clear HM hz hc
                  go_enter Tryz.func20, Tryz.ntmps20
                  go_wp2_with fail
                  refine (CF.out _).mono ?_; rintro r wq ⟨rfl, rfl⟩
                  go_wp2_with fail
                  refine (CT.out _).mono ?_; rintro r wq ⟨rfl, rfl⟩
                  go_wp2_with fail
                  refine (CK.out _ HB.out).mono ?_; rintro r w5 ⟨rfl, b5⟩
                  have B5 := Lib.hid (HB.out.trans (below_of_le b5 (by simp)))
                  clear b5
                  go_wp2
                  go_ret
                  exact ⟨ret_bool HX.out.symm, B5.out⟩
              · have tz : ((ne : Int) == 0) = false := by simp [hz]
                have HX := Lib.hid (show _ = false from HM.out.trans (by rw [decide_eq_false hz]; rfl))
                clear HM hz
                go_enter Tryz.func20, Tryz.ntmps20
                go_wp2_with fail
                refine (CF.out _).mono ?_; rintro r wq ⟨rfl, rfl⟩
                go_wp2_with fail
                refine (CT.out _).mono ?_; rintro r wq ⟨rfl, rfl⟩
                go_wp2
                go_ret
                exact ⟨ret_bool HX.out.symm, HB.out⟩
            · have t1 : (kind == 1) = false := by simp [hk1]
              have t2 : (kind == 2) = false := by simp [hk2]
              have t3' : (kind == 3) = false := by simp [hk3]
              have HX := Lib.hid (show msB (mlM ⟨kind, frm, dst, marks, Am, cm, es, Ae, ce⟩) = false from by unfold msB mlM; simp only; rw [if_neg hk2, if_neg (by omega), Bool.and_false])
              clear hd HVM HVE CR0 hk1 hk2 hk3
              go_enter Tryz.func20, Tryz.ntmps20
              go_wp2_with fail
              refine (CF.out _).mono ?_; rintro r wq ⟨rfl, rfl⟩
              go_wp2_with fail
              refine (CT.out _).mono ?_; rintro r wq ⟨rfl, rfl⟩
              go_wp2
              go_ret
              exact ⟨ret_bool HX.out.symm, HB.out⟩
end Go.Proofs.YtpakmeegldgjmaaGreat
/- Layer 35 (msg): Bytes. -/
namespace Go.Proofs.YtpakmeegldgjmaaGreat
open Go.RowKit
set_option linter.unusedVariables false
set_option linter.unusedSimpArgs false
set_option maxRecDepth 100000
attribute [local go_sem ↓] Go.wp_at_zero Go.wp_at_succ
attribute [local go_sem] bs_size bs_list bs_nil_list

theorem evP_len {e : Ed} (h : evB e = true) : (evP e).length ≤ 4000 := by
  have ok := ev_ok h
  have h1 := dP_len e.dot
  have h2 := stP_len e.st.1 e.st.2.1 e.st.2.2
  have h3 := vput_le (x := e.over.length) (by have := ok.over; omega)
  have h4 := dsP_len e.over
  have h5 := ok.over
  unfold evP
  simp only [List.length_append, List.length_cons]
  by_cases hk : e.kind = 1
  · rw [if_pos hk]
    obtain ⟨a1, a2, a3, a4⟩ := ok.lens hk
    obtain ⟨t1, t2, t3, t4, t5, t6⟩ := ok.times hk
    have u1 := txP_len e.name (by omega)
    have u2 := txP_len e.dom (by omega)
    have u3 := txP_len e.path (by omega)
    have u4 := txP_len e.value (by omega)
    have u5 := vput_le (x := (foldI e.exp).toNat) (by have := foldI_lt e.exp (by omega) (by omega); have := foldI_nn e.exp; omega)
    have u6 := vput_le (x := e.cre.toNat) (by omega)
    have u7 := vput_le (x := e.acc.toNat) (by omega)
    unfold itP
    simp only [List.length_append]
    omega
  · rw [if_neg hk]
    simp only [List.length_nil]
    omega
theorem evsP_len {l : List Ed} (h : ∀ e ∈ l, evB e = true) : (l.flatMap evP).length ≤ 4000 * l.length := by
  induction l with
  | nil => simp
  | cons x r ih =>
    have h1 := evP_len (h x (List.mem_cons_self ..))
    have h2 := ih (fun e he => h e (List.mem_cons_of_mem _ he))
    simp only [List.flatMap_cons, List.length_append, List.length_cons]
    omega
/-- What a message that may be is. -/
structure MsOk (m : Md) : Prop where
  kind : 1 ≤ m.kind ∧ m.kind ≤ 3
  frm : 0 ≤ m.frm ∧ m.frm < 64
  dst : 0 ≤ m.dst ∧ m.dst < 64
  evs : ∀ e ∈ m.evs, evB e = true
  chk : chkE m.marks = 0
  vw : Vw m.marks
  le : m.evs.length ≤ 256
theorem ms_ok {m : Md} (h : msB m = true) : MsOk m := by
  unfold msB devB at h
  simp only [Bool.and_eq_true, decide_eq_true_eq] at h
  obtain ⟨⟨⟨⟨h1, h2⟩, h3, h4⟩, h5⟩, h6⟩ := h
  by_cases hk : m.kind = 2
  · rw [if_pos hk, Bool.and_eq_true, decide_eq_true_eq] at h6
    unfold riseB at h6
    rw [Bool.and_eq_true, decide_eq_true_eq] at h6
    exact ⟨by omega, ⟨h1, h2⟩, ⟨h3, h4⟩, riseG_mem h6.2.1, by rw [h6.1]; rfl, by rw [h6.1]; exact Vw.nil, h6.2.2⟩
  · rw [if_neg hk] at h6
    by_cases h13 : m.kind = 1 ∨ m.kind = 3
    · rw [if_pos h13, Bool.and_eq_true, decide_eq_true_eq, decide_eq_true_eq] at h6
      exact ⟨by omega, ⟨h1, h2⟩, ⟨h3, h4⟩, by rw [h6.1]; simp, h6.2, (chkE_vw h6.2).1, by rw [h6.1]; simp⟩
    · rw [if_neg h13] at h6
      cases h6
/-- A message's bytes. -/
def msF (m : Md) : List UInt8 := Go.Proofs.YtpakmeegldgjmaaGreat.frm (msP m)
theorem msP_len {m : Md} (h : msB m = true) (hm : m.marks.length ≤ 1000) (he : m.evs.length ≤ 64) : (msP m).length ≤ 300000 := by
  have ok := ms_ok h
  have h0 := ok.kind; have h1 := ok.frm; have h2 := ok.dst
  have a1 := vput_le (x := m.kind.toNat) (by omega)
  have a2 := vput_le (x := m.frm.toNat) (by omega)
  have a3 := vput_le (x := m.dst.toNat) (by omega)
  have a4 := nP_len m.marks (by omega)
  have a5 := vput_le (x := m.evs.length) (by omega)
  have a6 := evsP_len ok.evs
  unfold msP
  simp only [List.length_append]
  omega
end Go.Proofs.YtpakmeegldgjmaaGreat
/- Layer 35 (msg): Bytes, by program. -/
namespace Go.Proofs.YtpakmeegldgjmaaGreat
open Go.RowKit
set_option linter.unusedVariables false
set_option linter.unusedSimpArgs false
set_option maxRecDepth 100000
attribute [local go_sem ↓] Go.wp_at_zero Go.wp_at_succ
attribute [local go_sem] bs_size bs_list bs_nil_list

/-- The writer while a message is packed. -/
def Wf (w1 : World) (N : Nat) (W : World) (A : Option Addr) (c : Nat) (l : List UInt8) : Prop := Wr W N N A c l ∧ Below N w1 W ∧ N ≤ W.heap.size
theorem Wf.below {w1 W W' : World} {N c : Nat} {A : Option Addr} {l : List UInt8} (h : Wf w1 N W A c l) (b : Below W.heap.size W W') : Wf w1 N W' A c l := ⟨h.1.below b, h.2.1.trans (below_of_le b h.2.2), Nat.le_trans h.2.2 b.size⟩
theorem Wf.step {w1 W W' : World} {N c c' : Nat} {A A' : Option Addr} {l l' : List UInt8} (h : Wf w1 N W A c l) (hw : Wr W' N N A' c' l') (st : WStep W W' N A A') : Wf w1 N W' A' c' l' := by
  have hb := wstep_below h.1 h.2.2 st
  exact ⟨hw, h.2.1.trans hb, Nat.le_trans h.2.2 hb.size⟩
theorem Wf.stepB {w1 W W' : World} {N c : Nat} {A A' : Option Addr} {l : List UInt8} (h : Wf w1 N W A c l) (st : WStep W W' N A A') : Below N W W' := wstep_below h.1 h.2.2 st
/-- What Bytes leaves. -/
def BytE (w : World) (l : List UInt8) (e : Ending) (w' : World) : Prop :=
  ∃ A c, e = .returned (.tuple #[.slice A l.length c, .int .i64 0]) ∧ Own w' w.heap.size 5 1 A l.length c (bv l) ∧ Below w.heap.size w w'
set_option maxHeartbeats 8000000 in
theorem msgbytes_any (x : Ml) (w : World) (h : MlAt w w.heap.size x) (ok : MlOk x) (h64 : x.es.length ≤ 64) (hq : msB (mlM x) = true) :
    Calls Tryz.prog 7 #[.agg (mlC x)] w (BytE w (msF (mlM x))) := by
  have mok := ms_ok hq
  have hb := (Below.refl w.heap.size w).alloc (Nat.le_refl _) (.cells (mlC x) 30)
  have HW := Lib.hid (Whole.new w 30 (mlC x))
  have CR0 := fun (W : World) (hb : Below w.heap.size w W) => mright_any x W (h.up hb) ok
  rw [hq] at CR0
  have CR := Lib.hid CR0
  have HB := Lib.hid hb
  have HM := Lib.hid h
  have HP := Lib.hid (msP_len hq ok.lm (by show (eds x.es).length ≤ 64; unfold eds; rw [List.length_map]; exact h64))
  obtain ⟨kind, frm, dst, marks, Am, cm, es, Ae, ce⟩ := x
  obtain ⟨k, hk⟩ := Int.eq_ofNat_of_zero_le (show 0 ≤ kind by have := mok.kind.1; simp only [mlM] at this; omega)
  obtain ⟨f, hf⟩ := Int.eq_ofNat_of_zero_le (show 0 ≤ frm from mok.frm.1)
  obtain ⟨d, hd⟩ := Int.eq_ofNat_of_zero_le (show 0 ≤ dst from mok.dst.1)
  subst hk hf hd
  have hk3 : k ≤ 3 := by have := mok.kind.2; simp only [mlM] at this; omega
  have hf3 : f < 64 := by have := mok.frm.2; simp only [mlM] at this; omega
  have hd3 : d < 64 := by have := mok.dst.2; simp only [mlM] at this; omega
  have HEV := Lib.hid (show ∀ y ∈ es, evB y.e = true from fun y hy => mok.evs y.e (List.mem_map_of_mem hy))
  have HCK := Lib.hid (show chkE marks = 0 from mok.chk)
  have hlm := ok.lm
  simp only at hlm h64
  have HF := Lib.hid (show msP (mlM ⟨k, f, d, marks, Am, cm, es, Ae, ce⟩) = ((([] ++ vput k) ++ vput f) ++ vput d) ++ nP marks ++ vput es.length ++ (eds es).flatMap evP by unfold msP mlM; simp [eds, List.append_assoc])
  clear CR0 hb h ok hq mok
  unfold mlC at CR HW HB ⊢
  simp only at CR HW HB ⊢
  have hsz : (w.alloc (.cells #[.int .i64 k, .int .i64 f, .int .i64 d, .slice Am marks.length cm, .slice Ae es.length ce] 30)).heap.size = w.heap.size + 1 := by simp
  go_enter Tryz.func7, Tryz.ntmps7
  go_wp2_with (refine ld_whole (by rfl) _ rfl rfl HW.out Tryz.underlying30 rfl (by kernel_rfl) ?_)
  refine (CR.out _ HB.out).mono ?_; rintro r w1 ⟨rfl, b1⟩
  rw [hsz] at b1
  have hW1 := HW.out.below b1 (by omega)
  have B1 := Lib.hid (HB.out.trans (below_of_le b1 (by omega)))
  have hlt : w.heap.size < w1.heap.size := hW1.lt
  have hM1 : MlAt w1 w.heap.size ⟨k, f, d, marks, Am, cm, es, Ae, ce⟩ := HM.out.below B1.out
  have c0 : w1.cell? ⟨w.heap.size, 0, none⟩ = some (.int .i64 k) := by rw [hW1.cell]; rfl
  have c1 : w1.cell? ⟨w.heap.size, 1, none⟩ = some (.int .i64 f) := by rw [hW1.cell]; rfl
  have c2 : w1.cell? ⟨w.heap.size, 2, none⟩ = some (.int .i64 d) := by rw [hW1.cell]; rfl
  have c3 : w1.cell? ⟨w.heap.size, 3, none⟩ = some (.slice Am marks.length cm) := by rw [hW1.cell]; rfl
  have c4 : w1.cell? ⟨w.heap.size, 4, none⟩ = some (.slice Ae es.length ce) := by rw [hW1.cell]; rfl
  have HC := Lib.hid (And.intro c0 (And.intro c1 (And.intro c2 (And.intro c3 c4))))
  have HM1 := Lib.hid (And.intro hM1 hlt)
  clear b1 hW1 hM1 hsz HW HB CR c0 c1 c2 c3 c4 HM
  generalize hE : w.heap.size = E at *
  have HN := Lib.hid hE
  clear hE
  go_upto_region 4 with fail
  have H2 := Lib.hid (show Wf w1 w1.heap.size (w1.alloc (.cells #[.slice none 0 0] 65)) none 0 [] from ⟨⟨Nat.le_refl _, Whole.new _ _ _, Own.nil_⟩, (Below.refl _ _).alloc (Nat.le_refl _) _, by simp⟩)
  generalize (w1.alloc (.cells #[.slice none 0 0] 65)) = W2 at *
  generalize hN1 : w1.heap.size = N at *
  have HN1 := Lib.hid hN1
  clear hN1
  have CN := Lib.hid (fun (x : Nat) (hx : x < 18446744073709551616) (W : World) (A : Option Addr) (c : Nat) (l : List UInt8) (h : Wf w1 N W A c l) (hl : l.length ≤ 1000000) => wnum_any W N N A c l x h.1 h.2.2 hl hx)
  have l1 := Lib.hid (vput_le (x := k) (by omega))
  have l2 := Lib.hid (vput_le (x := f) (by omega))
  have l3 := Lib.hid (vput_le (x := d) (by omega))
  have y1 : IntKind.u64.wrap (k : Int) = (k : Int) := by rw [IntKind.wrap_u64]; omega
  have y2 : IntKind.u64.wrap (f : Int) = (f : Int) := by rw [IntKind.wrap_u64]; omega
  have y3 : IntKind.u64.wrap (d : Int) = (d : Int) := by rw [IntKind.wrap_u64]; omega
  have HEN := Lib.hid (show E < N from HM1.out.2)
  refine wp_region_held_drew (S := (fun W => W.cell? ⟨E, 0, none⟩ = some (.int .i64 k) ∧ W.cell? ⟨E, 1, none⟩ = some (.int .i64 f) ∧ W.cell? ⟨E, 2, none⟩ = some (.int .i64 d))) (by kernel_rfl) ?_ (fun hHeld => ?_)
  · (try dsimp only); exact ⟨(H2.out.2.1.cell HEN.out).trans HC.out.1, (H2.out.2.1.cell HEN.out).trans HC.out.2.1, (H2.out.2.1.cell HEN.out).trans HC.out.2.2.1⟩
  refine wpAnyH_take (i := 0) (v := ?_) rfl (by kernel_rfl) (by kernel_rfl) (by kernel_rfl) (fun _ _ _ h => h) (Or.inl ⟨by rfl, ?_⟩) (by assumption) ?_
  rotate_left
  first | (focus ((intro w hSw; (try dsimp only at hSw); go_simp); (try with_reducible rfl); done)) | fail
  try simp only [Act.put, List.getElem_toArray, List.getElem_cons_zero, List.setIfInBounds_toArray, List.set_cons_zero, List.set_cons_succ]
  refine wpAnyH_take (i := 1) (v := ?_) rfl (by kernel_rfl) (by kernel_rfl) (by kernel_rfl) (fun _ _ _ h => h) (Or.inl ⟨by rfl, ?_⟩) (by assumption) ?_
  rotate_left
  first | (focus ((intro w hSw; (try dsimp only at hSw); go_simp); (try with_reducible rfl); done)) | fail
  try simp only [Act.put, List.getElem_toArray, List.getElem_cons_zero, List.getElem_cons_succ, List.setIfInBounds_toArray, List.set_cons_zero, List.set_cons_succ]
  refine wpAnyH_take (i := 2) (v := ?_) rfl (by kernel_rfl) (by kernel_rfl) (by kernel_rfl) (fun _ _ _ h => h) (Or.inl ⟨by rfl, ?_⟩) (by assumption) ?_
  rotate_left
  first | (focus ((intro w hSw; (try dsimp only at hSw); go_simp); (try with_reducible rfl); done)) | fail
  try simp only [Act.put, List.getElem_toArray, List.getElem_cons_zero, List.getElem_cons_succ, List.setIfInBounds_toArray, List.set_cons_zero, List.set_cons_succ]
  refine wpAnyH_take (i := 3) (v := ?_) rfl (by kernel_rfl) (by kernel_rfl) (by kernel_rfl) (fun _ _ _ h => h) (Or.inl ⟨by rfl, ?_⟩) (by assumption) ?_
  rotate_left
  first | (focus ((intro w hSw; (try dsimp only at hSw); go_simp); (try with_reducible rfl); done)) | fail
  try simp only [Act.put, List.getElem_toArray, List.getElem_cons_zero, List.getElem_cons_succ, List.setIfInBounds_toArray, List.set_cons_zero, List.set_cons_succ]
  refine wpAnyH_take (i := 5) (v := ?_) rfl (by kernel_rfl) (by kernel_rfl) (by kernel_rfl) (fun _ _ _ h => h) (Or.inl ⟨by rfl, ?_⟩) (by assumption) ?_
  rotate_left
  first | (focus ((intro w hSw; (try dsimp only at hSw); go_simp); (try with_reducible rfl); done)) | fail
  try simp only [Act.put, List.getElem_toArray, List.getElem_cons_zero, List.getElem_cons_succ, List.setIfInBounds_toArray, List.set_cons_zero, List.set_cons_succ]
  refine wpAnyH_take (i := 6) (v := ?_) rfl (by kernel_rfl) (by kernel_rfl) (by kernel_rfl) (fun _ _ _ h => h) (Or.inl ⟨by rfl, ?_⟩) (by assumption) ?_
  rotate_left
  first | (focus ((intro w hSw; (try dsimp only at hSw); go_simp); (try with_reducible rfl); done)) | fail
  try simp only [Act.put, List.getElem_toArray, List.getElem_cons_zero, List.getElem_cons_succ, List.setIfInBounds_toArray, List.set_cons_zero, List.set_cons_succ]
  refine wpAnyH_take (i := 7) (v := ?_) rfl (by kernel_rfl) (by kernel_rfl) (by kernel_rfl) (fun _ _ _ h => h) (Or.inl ⟨by rfl, ?_⟩) (by assumption) ?_
  rotate_left
  first | (focus ((intro w hSw; (try dsimp only at hSw); go_simp); (try with_reducible rfl); done)) | fail
  try simp only [Act.put, List.getElem_toArray, List.getElem_cons_zero, List.getElem_cons_succ, List.setIfInBounds_toArray, List.set_cons_zero, List.set_cons_succ]
  refine wpAnyH_take (i := 9) (v := ?_) rfl (by kernel_rfl) (by kernel_rfl) (by kernel_rfl) (fun _ _ _ h => h) (Or.inl ⟨by rfl, ?_⟩) (by assumption) ?_
  rotate_left
  first | (focus ((intro w hSw; (try dsimp only at hSw); go_simp); (try with_reducible rfl); done)) | fail
  try simp only [Act.put, List.getElem_toArray, List.getElem_cons_zero, List.getElem_cons_succ, List.setIfInBounds_toArray, List.set_cons_zero, List.set_cons_succ]
  refine wpAnyH_take (i := 10) (v := ?_) rfl (by kernel_rfl) (by kernel_rfl) (by kernel_rfl) (fun _ _ _ h => h) (Or.inl ⟨by rfl, ?_⟩) (by assumption) ?_
  rotate_left
  first | (focus ((intro w hSw; (try dsimp only at hSw); go_simp); (try with_reducible rfl); done)) | fail
  try simp only [Act.put, List.getElem_toArray, List.getElem_cons_zero, List.getElem_cons_succ, List.setIfInBounds_toArray, List.set_cons_zero, List.set_cons_succ]
  refine wpAnyH_take (i := 11) (v := ?_) rfl (by kernel_rfl) (by kernel_rfl) (by kernel_rfl) (fun _ _ _ h => h) (Or.inl ⟨by rfl, ?_⟩) (by assumption) ?_
  rotate_left
  first | (focus ((intro w hSw; (try dsimp only at hSw); go_simp); (try with_reducible rfl); done)) | fail
  try simp only [Act.put, List.getElem_toArray, List.getElem_cons_zero, List.getElem_cons_succ, List.setIfInBounds_toArray, List.set_cons_zero, List.set_cons_succ]
  refine wpAnyH_ready (rs := [4]) (by kernel_rfl) (by simp) ?_
  refine AllReadyH.cons rfl (fun K hK => ?_) AllReadyH.nil
  go_simp
  refine (CN.out k (by omega) _ _ _ _ (H2.out.below (Below.refl _ _).drew) (by simp)).mono ?_; rintro r w3 ⟨A3, c3', rfl, hw3, st⟩
  go_wp2_with fail
  refine hK.out _ _ ?_ (fun hHeld => ?_)
  · (try dsimp only); (have hb := (H2.out.below (Below.refl _ _).drew).stepB st; exact ⟨(hb.cell (p := ⟨E, 0, none⟩) HM1.out.2).trans hHeld.1, (hb.cell (p := ⟨E, 1, none⟩) HM1.out.2).trans hHeld.2.1, (hb.cell (p := ⟨E, 2, none⟩) HM1.out.2).trans hHeld.2.2⟩)
  clear hK K
  try simp only [Act.put, List.getElem_toArray, List.getElem_cons_zero, List.getElem_cons_succ, List.setIfInBounds_toArray, List.set_cons_zero, List.set_cons_succ]
  have H3 := Lib.hid ((H2.out.below (Below.refl _ _).drew).step hw3 st)
  clear hw3 st
  refine wpAnyH_ready (rs := [8]) (by kernel_rfl) (by simp) ?_
  refine AllReadyH.cons rfl (fun K hK => ?_) AllReadyH.nil
  go_simp
  refine (CN.out f (by omega) _ _ _ _ H3.out (by have := l1.out; simp; omega)).mono ?_; rintro r w4 ⟨A4, c4', rfl, hw4, st⟩
  go_wp2_with fail
  refine hK.out _ _ ?_ (fun hHeld => ?_)
  · (try dsimp only); (have hb := (H3.out).stepB st; exact ⟨(hb.cell (p := ⟨E, 0, none⟩) HM1.out.2).trans hHeld.1, (hb.cell (p := ⟨E, 1, none⟩) HM1.out.2).trans hHeld.2.1, (hb.cell (p := ⟨E, 2, none⟩) HM1.out.2).trans hHeld.2.2⟩)
  clear hK K
  try simp only [Act.put, List.getElem_toArray, List.getElem_cons_zero, List.getElem_cons_succ, List.setIfInBounds_toArray, List.set_cons_zero, List.set_cons_succ]
  have H4 := Lib.hid (H3.out.step hw4 st)
  clear hw4 st
  refine wpAnyH_ready (rs := [12]) (by kernel_rfl) (by simp) ?_
  refine AllReadyH.cons rfl (fun K hK => ?_) AllReadyH.nil
  go_simp
  refine (CN.out d (by omega) _ _ _ _ H4.out (by have := l1.out; have := l2.out; simp; omega)).mono ?_; rintro r w5 ⟨A5, c5', rfl, hw5, st⟩
  go_wp2_with fail
  refine hK.out _ _ ?_ (fun hHeld => ?_)
  · (try dsimp only); (have hb := (H4.out).stepB st; exact ⟨(hb.cell (p := ⟨E, 0, none⟩) HM1.out.2).trans hHeld.1, (hb.cell (p := ⟨E, 1, none⟩) HM1.out.2).trans hHeld.2.1, (hb.cell (p := ⟨E, 2, none⟩) HM1.out.2).trans hHeld.2.2⟩)
  clear hK K
  try simp only [Act.put, List.getElem_toArray, List.getElem_cons_zero, List.getElem_cons_succ, List.setIfInBounds_toArray, List.set_cons_zero, List.set_cons_succ]
  have H5 := Lib.hid (H4.out.step hw5 st)
  clear hw5 st
  refine wpAnyH_done (by kernel_rfl) ?_ _
  clear H2 H3 H4 y1 y2 y3
  have HL5 := Lib.hid (show ((([] ++ vput k) ++ vput f) ++ vput d).length ≤ 30 by have := l1.out; have := l2.out; have := l3.out; simp; omega)
  clear l1 l2 l3
  generalize hL5 : ((([] ++ vput k) ++ vput f) ++ vput d) = L5 at *
  clear hL5
  have hmk : MsAt w5 Am marks := Ds.more (Ds.below (HM1.out.1.mks) (below_of_le H5.out.2.1 (Nat.le_of_lt HEN.out))) (by have := H5.out.2.2; have := HEN.out; omega)
  have CV := Lib.hid (vcput_any w5 N N A5 c5' L5 Am cm marks H5.out.1 H5.out.2.2 (by have := HL5.out; omega) hmk (fun g hg hne => by
    have hlt : g < N := by
      have hpos : 0 < marks.length := List.length_pos_iff.2 hne
      have hmk1 : Ds w1 E Am marks := HM1.out.1.mks
      obtain ⟨b0, o0, e0, hb0, _⟩ := Ds.at_ hmk1 (List.getElem?_eq_getElem hpos)
      rw [e0] at hg
      have : b0 = g := by simpa [bl] using hg
      have := HEN.out
      omega
    exact ⟨by omega, fun e => by have := (H5.out.1.2.2.block_lt g (by rw [ownBlock_bl]; exact e)).1; omega⟩) (by omega) HCK.out)
  have c3 : w5.cell? ⟨E, 3, none⟩ = some (.slice Am marks.length cm) := (H5.out.2.1.cell HEN.out).trans HC.out.2.2.2.1
  clear hmk
  go_wp2_with fail
  refine CV.out.mono ?_; rintro r w6 ⟨A6, c6, rfl, hw6, st⟩
  have H6 := Lib.hid (H5.out.step hw6 st)
  clear hw6 st CV c3 H5
  have HL6 := Lib.hid (show (L5 ++ nP marks).length ≤ 40000 by have := HL5.out; have := nP_len marks (by omega); rw [List.length_append]; omega)
  generalize hL6 : L5 ++ nP marks = L6 at *
  clear HL5
  have c4 : w6.cell? ⟨E, 4, none⟩ = some (.slice Ae es.length ce) := (H6.out.2.1.cell HEN.out).trans HC.out.2.2.2.2
  have y4 : IntKind.u64.wrap (es.length : Int) = (es.length : Int) := by rw [IntKind.wrap_u64]; omega
  have l4 := Lib.hid (vput_le (x := es.length) (by omega))
  go_wp2_with fail
  refine (CN.out es.length (by omega) _ _ _ _ H6.out (by have := HL6.out; omega)).mono ?_; rintro r w7 ⟨A7, c7, rfl, hw7, st⟩
  have H7 := Lib.hid (H6.out.step hw7 st)
  clear hw7 st c4 H6
  have HL7 := Lib.hid (show (L6 ++ vput es.length).length ≤ 41000 by have := HL6.out; have := l4.out; rw [List.length_append]; omega)
  generalize hL7 : L6 ++ vput es.length = L7 at *
  clear HL6 l4 y4
  have c4 : w7.cell? ⟨E, 4, none⟩ = some (.slice Ae es.length ce) := (H7.out.2.1.cell HEN.out).trans HC.out.2.2.2.2
  generalize hn : es.length = n at *
  have HLn := Lib.hid hn
  clear hn
  have HX7 := Lib.hid (And.intro hL6 hL7)
  clear hL6 hL7
  go_wp2_with fail
  clear c4
  have HEs := Lib.hid (show EsAt w1 E Ae es from HM1.out.1.es)
  go_loopw [37] (fun i wr => ∃ (j : Nat) (A8 : Option Addr) (c8 : Nat), j ≤ n ∧ i = .int .i64 j ∧ Wf w1 N wr A8 c8 (L7 ++ (eds (es.take j)).flatMap evP)) (fun i _ => n - (intOf i).toNat)
  case atStart => exact ⟨0, A7, c7, by omega, rfl, by simpa [eds] using H7.out⟩
  case round =>
    obtain ⟨j, A8, c8, hj, rfl, hW⟩ := hrel
    have H8 := Lib.hid hW
    clear hW H7
    have len8 := Lib.hid (show (L7 ++ (eds (es.take j)).flatMap evP).length ≤ 300000 by
      have h1 := evsP_len (l := eds (es.take j)) (fun e he => by
        obtain ⟨y, hy, rfl⟩ := List.mem_map.1 he
        exact HEV.out y (List.mem_of_mem_take hy))
      have h2 : (eds (es.take j)).length ≤ 64 := by unfold eds; rw [List.length_map, List.length_take]; have := HLn.out; omega
      have := HL7.out
      rw [List.length_append]
      omega)
    have hNr : N ≤ wr.heap.size := H8.out.2.2
    by_cases hlt : j < n
    · obtain ⟨x, hx⟩ : ∃ x, es[j]? = some x := ⟨es[j]'(by have := HLn.out; omega), List.getElem?_eq_getElem _⟩
      obtain ⟨b0, o0, hA, hbN, hrg, hds⟩ := (HEs.out.below (below_of_le H8.out.2.1 (Nat.le_of_lt HEN.out))).at_ hx
      subst hA
      have HX := Lib.hid (show (L7 ++ (eds (es.take j)).flatMap evP) ++ evP x.e = L7 ++ (eds (es.take (j + 1))).flatMap evP by
        rw [List.append_assoc]
        congr 1
        rw [List.take_add_one, hx]
        simp [eds])
      have hqx := HEV.out x (List.mem_of_getElem? hx)
      have CP := Lib.hid (fun (W : World) (h : Wf w1 N W A8 c8 (L7 ++ (eds (es.take j)).flatMap evP)) (ho : Ds W N x.A x.e.over) => show Calls Tryz.prog 23 #[.pointer (some ⟨N, 0, none⟩), .agg (evA x.e x.A x.c)] W (WEnd0 W N N A8 ((L7 ++ (eds (es.take j)).flatMap evP) ++ evP x.e)) from evput_any x.e x.A x.c W N N A8 c8 _ h.1 h.2.2 (by have := len8.out; omega) ho hqx)
      have HRG := Lib.hid (And.intro hrg (Ds.more hds (Nat.le_of_lt HEN.out)))
      have hZ := Whole.new wr 59 zeroE'
      have HZ := Lib.hid hZ
      unfold zeroE' at HZ
      clear hx hrg hds hZ hqx
      go_wp2_with (first | (refine ld_range (by rfl) _ rfl rfl HRG.out.1 Tryz.underlying59 rfl (by kernel_rfl) ?_) | (refine st_whole (by rfl) _ _ rfl rfl rfl HZ.out (by rfl) (by kernel_rfl) (by rfl) ?_; intro W9 hX1 hC1 hz1; have H1 := Lib.hid (And.intro hX1 (And.intro hC1 hz1)); clear hX1 hC1 hz1) | (refine ld_whole (by rfl) _ rfl rfl H1.out.1 Tryz.underlying59 rfl (by kernel_rfl) ?_))
      have hb9 : Below wr.heap.size wr W9 := ((Below.refl _ wr).alloc (Nat.le_refl _) _).trans (H1.out.2.1.below (fun k hk e => by omega) (by simp))
      have H9 := Lib.hid (H8.out.below hb9)
      refine (CP.out _ H9.out (Ds.below HRG.out.2 (below_of_le hb9 hNr))).mono ?_; rintro r w10 ⟨A10, c10, rfl, hw10, st⟩
      have H10 := Lib.hid (H9.out.step hw10 st)
      rw [HX.out] at H10
      clear hw10 st hb9 H9 H1
      go_wp2
      go_roundw
      case rel => exact ⟨j + 1, A10, c10, by omega, by go_num, H10.out⟩
      case measure => simp [intOf]; omega
    · have hj' : n = j := by omega
      subst hj'
      have h8 := H8.out
      have len9 := len8.out
      have e8 : L7 ++ (eds (es.take n)).flatMap evP = msP (mlM ⟨k, f, d, marks, Am, cm, es, Ae, ce⟩) := by
        rw [HF.out, List.take_of_length_le (l := es) (i := n) (by have := HLn.out; omega)]
      rw [e8] at h8 len9
      have H9 := Lib.hid h8
      have CB := Lib.hid (wbytes_any wr N N A8 c8 _ h8.1 (by omega))
      generalize hPP : msP (mlM ⟨k, f, d, marks, Am, cm, es, Ae, ce⟩) = PP at *
      have HPP := Lib.hid hPP
      clear hPP h8 e8 H8 HX7 HF
      go_wp2_with fail
      refine (CB.out).mono ?_; rintro r w11 ⟨A11, c11, rfl, o11, b11⟩
      have hs11 := b11.size
      have CF := Lib.hid (fput_any none A11 0 PP.length 0 c11 [] PP w11 Rd.nil_ o11.rd (by omega) (by omega))
      have B11 := Lib.hid (show Below E w w11 from (B1.out.trans (below_of_le H9.out.2.1 (Nat.le_of_lt HEN.out))).trans (below_of_le b11 (by have := HEN.out; omega)))
      clear o11 b11
      go_wp2_with fail
      refine (CF.out).mono ?_; rintro r w12 ⟨A12, c12, rfl, o12, b12⟩
      have HX := Lib.hid (show BytE w (Go.Proofs.YtpakmeegldgjmaaGreat.frm PP) (.returned (.tuple #[.slice A12 ([] ++ Go.Proofs.YtpakmeegldgjmaaGreat.frm PP).length c12, .int .i64 0])) w12 from ⟨A12, c12, rfl, o12.base_le (by have := HN.out; have := HEN.out; have := H9.out.2.2; omega), by rw [HN.out]; exact B11.out.trans (below_of_le b12 (by have := HEN.out; have := H9.out.2.2; omega))⟩)
      clear o12 b12
      go_wp2_with fail
      go_ret2
      have hx : BytE w (msF (mlM ⟨k, f, d, marks, Am, cm, es, Ae, ce⟩)) (.returned (.tuple #[.slice A12 (Go.Proofs.YtpakmeegldgjmaaGreat.frm PP).length c12, .int .i64 0])) w12 := by
        unfold msF
        rw [HPP.out]
        exact HX.out
      exact hx
end Go.Proofs.YtpakmeegldgjmaaGreat
/- Layer 35 (msg): appends of events; what is told while a message is read. -/
namespace Go.Proofs.YtpakmeegldgjmaaGreat
open Go.RowKit
set_option linter.unusedVariables false
set_option linter.unusedSimpArgs false
set_option maxRecDepth 100000
attribute [local go_sem ↓] Go.wp_at_zero Go.wp_at_succ
attribute [local go_sem] bs_size bs_list bs_nil_list

theorem info_ev : (Tryz.prog.info? 59).map (fun i => (i.zero, i.size, i.bytes)) = some (some (.agg zeroE), 19, 176) := by kernel_rfl
theorem elC_one (x : El) : ∀ u ∈ elC x, u.oneCell' = true := by
  intro u hu
  have h : (elC x).all (·.oneCell') = true := rfl
  exact List.all_eq_true.1 h u hu
theorem appE (w : World) (base : Nat) (A : Option Addr) (n c : Nat) (xs : List Value) (hown : Own w base 59 19 A n c xs) (B : Nat) (A' : Option Addr) (m c' : Nat) (news : List Value) (hr : Rd w B 19 A' m news) (h1 : ∀ u ∈ news, u.oneCell' = true) (hlen : n + m ≤ 400000000) (hbase : base ≤ w.heap.size) :
    ∃ A2 c2 w', (Builtin.append_ #[28, 28] 28 #[.slice A n c, .slice A' m c']).run Tryz.prog w = .ok (.slice A2 (n + m) c2) w' ∧ Own w' base 59 19 A2 (n + m) c2 (xs ++ news) ∧ w.grownBy w' (bl A) ∧ Near w A A2 := by
  obtain ⟨i0, hi, hz0, hz1, hz2⟩ := info_parts info_ev
  exact run_append_rdn (P := Tryz.prog) w 28 28 base 59 i0 (.agg zeroE) 19 176 Tryz.underlying28 hi hz0 hz1 hz2 rfl (by decide) (by decide) A n c xs hown B A' m c' news hr h1 (by omega) hbase
/-- One event appended, laid in a block of its own ahead of it. -/
theorem app1e (w : World) (base : Nat) (A : Option Addr) (n c : Nat) (xs : List Value) (hown : Own w base 59 19 A n c xs) (x : El) (hlen : n ≤ 300000000) (hbase : base ≤ w.heap.size) :
    ∃ A2 c2 w', (Builtin.append_ #[28, 28] 28 #[.slice A n c, .slice (some ⟨w.heap.size, 0, none⟩) 1 1]).run Tryz.prog (w.alloc (.cells (evA x.e x.A x.c) 59)) = .ok (.slice A2 (n + 1) c2) w' ∧ Own w' base 59 19 A2 (n + 1) c2 (xs ++ elC x) ∧
      Ch (fun k => some k = bl A) w w' ∧ Below base w w' ∧ ∀ k, bl A2 = some k → bl A = some k ∨ w.heap.size ≤ k := by
  have hr : Rd (w.alloc (.cells (evA x.e x.A x.c) 59)) (w.heap.size + 1) 19 (some ⟨w.heap.size, 0, none⟩) 1 (elC x) :=
    ⟨rfl, fun _ => ⟨_, _, rfl, by omega, fun j u hu => by rw [(Whole.new w 59 (evA x.e x.A x.c)).cell, Nat.zero_add, ← Array.getElem?_toList]; exact hu⟩⟩
  obtain ⟨A2, c2, w', q, o, g, nr⟩ := appE (w.alloc (.cells (evA x.e x.A x.c) 59)) base A n c xs (hown.alloc _) (w.heap.size + 1) _ 1 1 (elC x) hr (elC_one x) (by omega) (by simp; omega)
  refine ⟨A2, c2, w', q, o, ?_, ?_, fun k hk => ?_⟩
  · exact (Ch.alloc_ _ w _).trans (grown_ch g) (fun k _ h => h)
  · exact ((Below.refl base w).alloc hbase _).grown g (by simp; omega) hown.bl_lo
  · rcases nr with h | h
    · exact .inl (by rw [← h]; exact hk)
    · rw [h] at hk
      simp at hk
      exact .inr (by omega)
/-- What is told while the events of a message are read: the reader, the message that is made. -/
structure QS (wL : World) (N b X : Nat) (W : World) (A : Option Addr) (n c : Nat) (l : List UInt8) (x : Ml) : Prop where
  re : Re W b A n c l 0
  ms : Whole W X 30 (mlC x)
  ch : Ch (fun k => k = b ∨ k = X) wL W
  ow : Own W N 59 19 x.Ae x.es.length x.ce (x.es.flatMap elC)
  ov : ∀ y ∈ x.es, Own W N 50 3 y.A y.e.over.length y.c (dts y.e.over)
  bN : b < N
  xN : X < N
  nl : N = wL.heap.size
  bX : b < X
section
variable {wL W W' : World} {N b X n c n' c' : Nat} {A A' : Option Addr} {l l' : List UInt8} {x : Ml}
theorem QS.low (h : QS wL N b X W A n c l x) (k : Below W.heap.size W W') : QS wL N b X W' A n c l x :=
  ⟨⟨h.re.1.below k h.re.1.lt, h.re.2.1.below (below_of_le k (Nat.le_of_lt h.re.1.lt)), h.re.2.2⟩, h.ms.below k h.ms.lt, h.ch.trans (below_ch (S := fun _ => False) k) (fun _ _ hf => hf.elim), h.ow.below k (Nat.le_refl _), fun y hy => (h.ov y hy).below k (Nat.le_refl _), h.bN, h.xN, h.nl, h.bX⟩
theorem QS.read (h : QS wL N b X W A n c l x) (hr : Re W' b A' n' c' l' 0) (hc : Ch (fun k => k = b) W W') : QS wL N b X W' A' n' c' l' x :=
  have h1 := h.bN; have h2 := h.bX
  ⟨hr, h.ms.ch hc (fun e => by omega), h.ch.trans hc (fun _ _ e => .inl e), h.ow.ch hc (fun k hk _ _ e => by omega), fun y hy => (h.ov y hy).ch hc (fun k hk _ _ e => by omega), h.bN, h.xN, h.nl, h.bX⟩
theorem QS.sz (h : QS wL N b X W A n c l x) : N ≤ W.heap.size := by rw [h.nl]; exact h.ch.size
/-- Behind an append to the events, ahead of its store. -/
theorem QS.mid (h : QS wL N b X W A n c l x) (hC : Ch (fun k => some k = bl x.Ae) W W') : Re W' b A n c l 0 ∧ Whole W' X 30 (mlC x) ∧ (∀ y ∈ x.es, Own W' N 50 3 y.A y.e.over.length y.c (dts y.e.over)) := by
  have h1 := h.bN; have h2 := h.xN
  have hlo : ∀ k, some k = bl x.Ae → N ≤ k := fun k hk => h.ow.bl_lo k hk.symm
  refine ⟨⟨h.re.1.ch hC (fun e => by have := hlo _ e; omega), h.re.2.1.ch (Nat.le_of_lt h.re.1.lt) hC (fun k hk _ e => by have := hlo _ e; omega), h.re.2.2⟩, h.ms.ch hC (fun e => by have := hlo _ e; omega), fun y hy => ?_⟩
  exact (h.ov y hy).ch hC (fun j _ _ hj e => (h.ov y hy).apart h.ow (by decide) j hj e.symm)
end
end Go.Proofs.YtpakmeegldgjmaaGreat
/- Layer 35 (msg): Parse, of a message's bytes. -/
namespace Go.Proofs.YtpakmeegldgjmaaGreat
open Go.RowKit
set_option linter.unusedVariables false
set_option linter.unusedSimpArgs false
set_option maxRecDepth 100000
attribute [local go_sem ↓] Go.wp_at_zero Go.wp_at_succ
attribute [local go_sem] bs_size bs_list bs_nil_list

theorem QS.app {wL W W' : World} {N b X n c : Nat} {A : Option Addr} {l : List UInt8} {x : Ml} (h : QS wL N b X W A n c l x) {A2 : Option Addr} {c2 : Nat} {y : El} (hC : Ch (fun k => some k = bl x.Ae) W W') (ho : Own W' N 59 19 A2 (x.es.length + 1) c2 (x.es.flatMap elC ++ elC y)) (hy : Own W' N 50 3 y.A y.e.over.length y.c (dts y.e.over)) :
    QS wL N b X (W'.setCell ⟨X, 4, none⟩ (.slice A2 (x.es.length + 1) c2)) A n c l { x with es := x.es ++ [y], Ae := A2, ce := c2 } := by
  obtain ⟨hr, hm, hv⟩ := h.mid hC
  have h1 := h.bN; have h2 := h.xN; have h3 := h.bX
  have hlo : ∀ k, some k = bl x.Ae → N ≤ k := fun k hk => h.ow.bl_lo k hk.symm
  obtain ⟨q1, q2, q3⟩ := hr
  have hs : (mlC x).setIfInBounds 4 (.slice A2 (x.es.length + 1) c2) = mlC { x with es := x.es ++ [y], Ae := A2, ce := c2 } := by
    unfold mlC
    simp
  have hw := (Ch.set_ W' ⟨X, 4, none⟩ (.slice A2 (x.es.length + 1) c2))
  refine ⟨⟨q1.far (p := ⟨X, 4, none⟩) (by show b ≠ X; omega) _, q2.ch (Nat.le_of_lt q1.lt) hw (fun k hk _ e => by have e' : k = X := e; omega), q3⟩, hs ▸ hm.set_ 4 _, ?_, ?_, ?_, h1, h2, h.nl, h3⟩
  · refine (h.ch.trans hC (fun k hk e => ?_)).trans hw (fun k hk e => .inr e)
    have := hlo k e
    have := h.nl
    omega
  · have := ho.far (p := ⟨X, 4, none⟩) (ho.ne_ hm (by decide)) (.slice A2 (x.es.length + 1) c2)
    simpa using this
  · intro z hz
    rcases List.mem_append.1 hz with hz | hz
    · exact (hv z hz).far (p := ⟨X, 4, none⟩) ((hv z hz).ne_ hm (by decide)) _
    · simp at hz
      subst hz
      exact hy.far (p := ⟨X, 4, none⟩) (hy.ne_ hm (by decide)) _
theorem bs_ev (e : Ed) (A : Option Addr) (c : Nat) (w : World) : (Instr.buildSlice 28 1 #[(0, .agg (evA e A c))]).run Tryz.prog w = .ok (.slice (some ⟨w.heap.size, 0, none⟩) 1 1) (w.alloc (.cells (evA e A c) 59)) := by
  unfold evA
  go_simp
/-- What Parse leaves. -/
def ParE (w : World) (m : Md) (e : Ending) (w' : World) : Prop :=
  ∃ x : Ml, e = .returned (.tuple #[.agg (mlC x), .int .i64 0]) ∧ mlM x = m ∧ MlAt w' w'.heap.size x ∧ Below w.heap.size w w'
/-- A message's block, as it is laid. -/
def zeroM : Array Value := #[.int .i64 0, .int .i64 0, .int .i64 0, .slice none 0 0, .slice none 0 0]
set_option maxHeartbeats 8000000 in
theorem msgparse_any (m : Md) (hq : msB m = true) (hlm : m.marks.length ≤ 1000) (h64 : m.evs.length ≤ 64) (A : Option Addr) (n0 c0 : Nat) (w : World) (hr : Rd w w.heap.size 1 A n0 (bv (msF m))) (hn : n0 ≤ 1000000) (hnc : n0 ≤ c0) (hcm : c0 ≤ maxLen) :
    Calls Tryz.prog 11 #[.slice A n0 c0] w (ParE w m) := by
  have mok := ms_ok hq
  have hpl := msP_len hq hlm h64
  have CO := Lib.hid (fun (W : World) (hb : Below w.heap.size w W) => by
    have h := fone_any A n0 c0 (msF m) W ((hr.below hb).more hb.size) hn hnc hcm
    unfold msF at h
    rw [f1_frm _ (by omega)] at h
    exact h)
  obtain ⟨kind, frm, dst, L, evs⟩ := m
  simp only at hlm h64
  obtain ⟨k, hk⟩ := Int.eq_ofNat_of_zero_le (show 0 ≤ kind by have := mok.kind.1; simp only at this; omega)
  obtain ⟨f, hf⟩ := Int.eq_ofNat_of_zero_le (show 0 ≤ frm from mok.frm.1)
  obtain ⟨d, hd⟩ := Int.eq_ofNat_of_zero_le (show 0 ≤ dst from mok.dst.1)
  subst hk hf hd
  have hk3 : k ≤ 3 := by have := mok.kind.2; simp only at this; omega
  have hf3 : f < 64 := by have := mok.frm.2; simp only at this; omega
  have hd3 : d < 64 := by have := mok.dst.2; simp only at this; omega
  have HEV := Lib.hid (show ∀ y ∈ evs, evB y = true from mok.evs)
  have HVW := Lib.hid (show Vw L from mok.vw)
  have HP := Lib.hid (show msP ⟨k, f, d, L, evs⟩ = vput k ++ (vput f ++ (vput d ++ (nP L ++ (vput evs.length ++ evs.flatMap evP)))) from rfl)
  have HQ := Lib.hid hq
  clear mok hq hr hn hnc
  generalize hPP : msP ⟨k, f, d, L, evs⟩ = PP at *
  clear hPP
  have hZ := Whole.new w 30 zeroM
  have HZ := Lib.hid hZ
  have HB := Lib.hid ((Below.refl w.heap.size w).alloc (Nat.le_refl _) (.cells zeroM 30))
  unfold zeroM at HB HZ
  clear hZ
  go_enter Tryz.func11, Tryz.ntmps11
  go_wp2_with fail
  refine (CO.out _ HB.out).mono ?_; rintro r w1 ⟨A1, c1, rfl, o1, b1⟩
  have hs1 := b1.size
  have hW1 := HZ.out.below b1 (by simp)
  have B1 := Lib.hid (HB.out.trans (below_of_le b1 (by simp)))
  have CR := Lib.hid (read_any w1 A1 PP.length c1 PP (by have := o1.rd; exact this) o1.2.1 o1.2.2)
  have HZ1 := Lib.hid hW1
  clear CO HB HZ b1 hW1 o1 hpl
  go_wp2_with fail
  refine CR.out.mono ?_; rintro r w2 ⟨rfl, hr2, b2⟩
  have B2 := Lib.hid (B1.out.trans (below_of_le b2 (by have := HZ1.out.lt; omega)))
  have HZ2 := Lib.hid (HZ1.out.below b2 HZ1.out.lt)
  have hRb : w.heap.size < w1.heap.size := HZ1.out.lt
  generalize w1.heap.size = b at *
  rw [HP.out] at hr2
  have R2 := Lib.hid hr2
  clear hr2 b2 HZ1 B1 CR hs1 HP
  have CN := Lib.hid (fun (x most : Nat) (hx : x ≤ most) (hm : most < 1000) (R : List UInt8) (W : World) (A : Option Addr) (n c : Nat) (h : Re W b A n c (vput x ++ R) 0) => show Calls Tryz.prog 35 #[.pointer (some ⟨b, 0, none⟩), .int .u64 most] W (REnd W b (R, 0) (.int .u64 (x : Int))) by have := rnum_any W b A n c _ 0 most h; rw [rnumR_putx _ hx (by omega)] at this; exact this)
  have CN1 := Lib.hid (CN.out k 3 hk3 (by omega) (vput f ++ (vput d ++ (nP L ++ (vput evs.length ++ evs.flatMap evP)))))
  have CN2 := Lib.hid (CN.out f 63 (by omega) (by omega) (vput d ++ (nP L ++ (vput evs.length ++ evs.flatMap evP))))
  have CN3 := Lib.hid (CN.out d 63 (by omega) (by omega) (nP L ++ (vput evs.length ++ evs.flatMap evP)))
  have CN4 := Lib.hid (CN.out evs.length 256 (by omega) (by omega) (evs.flatMap evP))
  have CV := Lib.hid (fun (W : World) (A : Option Addr) (n c : Nat) (h : Re W b A n c (nP L ++ (vput evs.length ++ evs.flatMap evP)) 0) => vcget_put W b A n c L (vput evs.length ++ evs.flatMap evP) h HVW.out hlm)
  rw [show ((3 : Nat) : Int) = 3 from rfl] at CN1
  rw [show ((63 : Nat) : Int) = 63 from rfl] at CN2 CN3
  rw [show ((256 : Nat) : Int) = 256 from rfl] at CN4
  clear CN
  go_wp2_with fail
  refine (CN1.out _ _ _ _ R2.out).mono ?_; rintro r w3 ⟨A3, n3, c3, rfl, hr3, hc3⟩
  have R3 := Lib.hid (And.intro hr3 hc3)
  clear hr3 hc3 CN1
  go_wp2_with fail
  refine (CN2.out _ _ _ _ R3.out.1).mono ?_; rintro r w4 ⟨A4, n4, c4, rfl, hr4, hc4⟩
  have R4 := Lib.hid (And.intro hr4 (R3.out.2.trans hc4 (fun _ _ e => e)))
  clear hr4 hc4 CN2 R3
  go_wp2_with fail
  refine (CN3.out _ _ _ _ R4.out.1).mono ?_; rintro r w5 ⟨A5, n5, c5, rfl, hr5, hc5⟩
  have R5 := Lib.hid (And.intro hr5 (R4.out.2.trans hc5 (fun _ _ e => e)))
  clear hr5 hc5 CN3 R4
  have hbl : b < w5.heap.size := R5.out.1.1.lt
  have hX6 := Whole.new w5 30 #[.int .i64 k, .int .i64 f, .int .i64 d, .slice none 0 0, .slice none 0 0]
  have hb6 := (Below.refl w5.heap.size w5).alloc (Nat.le_refl _) (.cells #[.int .i64 k, .int .i64 f, .int .i64 d, .slice none 0 0, .slice none 0 0] 30)
  have hr6 : Re (w5.alloc (.cells #[.int .i64 k, .int .i64 f, .int .i64 d, .slice none 0 0, .slice none 0 0] 30)) b A5 n5 c5 (nP L ++ (vput evs.length ++ evs.flatMap evP)) 0 := R5.out.1.far hb6 hbl
  have R6 := Lib.hid (And.intro hr6 (And.intro hX6 (R5.out.2.trans (below_ch (S := fun _ => False) hb6) (fun _ _ e => e.elim))))
  clear hX6 hb6 hr6
  go_wp2_with fail
  have hXl : w5.heap.size < (w5.alloc (.cells #[.int .i64 k, .int .i64 f, .int .i64 d, .slice none 0 0, .slice none 0 0] 30)).heap.size := by simp
  have B6 := Lib.hid (show Below w.heap.size w (w5.alloc (.cells #[.int .i64 k, .int .i64 f, .int .i64 d, .slice none 0 0, .slice none 0 0] 30)) from (B2.out.trans (R6.out.2.2.below (fun g hg e => by omega) (by have := HZ2.out.lt; omega))))
  have HZ6 := Lib.hid (HZ2.out.ch R6.out.2.2 (by omega))
  have hwX : w.heap.size < w5.heap.size := by omega
  clear B2 HZ2 R2 R5
  generalize (w5.alloc (.cells #[.int .i64 k, .int .i64 f, .int .i64 d, .slice none 0 0, .slice none 0 0] 30)) = W6 at *
  generalize w5.heap.size = X at *
  refine (CV.out _ _ _ _ R6.out.1).mono ?_; rintro r w7 ⟨A7, c7, A7r, n7, c7r, rfl, hM7, hlo7, hr7, hc7⟩
  have hX7 := R6.out.2.1.ch hc7 (by omega)
  have HZ7 := Lib.hid (HZ6.out.ch hc7 (by omega))
  have hs7 := hc7.size
  have c3 : w7.cell? ⟨X, 3, none⟩ = some (.slice none 0 0) := by rw [hX7.cell]; rfl
  have f3 := hX7.free 3
  have hset := Ch.set_ w7 ⟨X, 3, none⟩ (.slice A7 L.length c7)
  have hX8 : Whole (w7.setCell ⟨X, 3, none⟩ (.slice A7 L.length c7)) X 30 #[.int .i64 k, .int .i64 f, .int .i64 d, .slice A7 L.length c7, .slice none 0 0] := hX7.set_ 3 _
  have hM8 : MsAt (w7.setCell ⟨X, 3, none⟩ (.slice A7 L.length c7)) A7 L := hM7.ch hset (fun g hg e => by have := hlo7 g hg; have e' : g = X := e; omega)
  have hr8 : Re (w7.setCell ⟨X, 3, none⟩ (.slice A7 L.length c7)) b A7r n7 c7r (vput evs.length ++ evs.flatMap evP) 0 := ⟨hr7.1.ch hset (fun e => by have e' : b = X := e; omega), hr7.2.1.ch (Nat.le_of_lt hr7.1.lt) hset (fun g hg _ e => by have e' : g = X := e; omega), hr7.2.2⟩
  have HZ8 := Lib.hid (HZ7.out.ch hset (fun e => by have e' : w.heap.size = X := e; omega))
  have B8 := Lib.hid (show Below w.heap.size w (w7.setCell ⟨X, 3, none⟩ (.slice A7 L.length c7)) from (B6.out.trans (hc7.below (fun g hg e => by omega) (by omega))).setCell (by show w.heap.size ≤ X; omega) _)
  have R8 := Lib.hid (And.intro hX8 (And.intro hM8 (And.intro hr8 (And.intro hlo7 (show W6.heap.size ≤ (w7.setCell ⟨X, 3, none⟩ (.slice A7 L.length c7)).heap.size by simpa using hs7)))))
  clear hX7 hset hX8 hM8 hr8 hM7 hlo7 hr7 hc7 HZ6 HZ7 B6 R6 CV hs7
  go_wp2_with fail
  clear c3 f3
  generalize w7.setCell ⟨X, 3, none⟩ (.slice A7 L.length c7) = W8 at *
  refine (CN4.out _ _ _ _ R8.out.2.2.1).mono ?_; rintro r w9 ⟨A9, n9, c9, rfl, hr9, hc9⟩
  have HQ0 := Lib.hid (show QS w9 w9.heap.size b X w9 A9 n9 c9 (evs.flatMap evP) ⟨k, f, d, L, A7, c7, [], none, 0⟩ from ⟨hr9, R8.out.1.ch hc9 (by omega), Ch.refl _ _, Own.nil_, by simp, hr9.1.lt, by have := R8.out.1.lt; have := hc9.size; omega, rfl, by omega⟩)
  have HM9 := Lib.hid (show MsAt w9 A7 L from R8.out.2.1.ch hc9 (fun g hg e => by have := R8.out.2.2.2.1 g hg; omega))
  have HMX := Lib.hid (show ∀ g, bl A7 = some g → g ≠ b ∧ g ≠ X ∧ g ≠ w.heap.size from fun g hg => by have := R8.out.2.2.2.1 g hg; omega)
  have HZ9 := Lib.hid (HZ8.out.ch hc9 (by omega))
  have B9 := Lib.hid (show Below w.heap.size w w9 from B8.out.trans (hc9.below (fun g hg e => by omega) (by have := HZ8.out.lt; omega)))
  clear hr9 hc9 R8 HZ8 B8 CN4
  have CE := Lib.hid (fun (W : World) (A : Option Addr) (n c : Nat) (l : List UInt8) (h : Re W b A n c l 0) => rerr_any W b A n c l 0 h)
  generalize hnn : evs.length = nn at *
  have HLn := Lib.hid hnn
  clear hnn
  go_wp2_with fail
  have HN9 := Lib.hid (show w9.heap.size = w9.heap.size from rfl)
  have CG := Lib.hid (fun (x : Ed) (hx : x ∈ evs) (R : List UInt8) (W : World) (A : Option Addr) (n c : Nat) (h : Re W b A n c (evP x ++ R) 0) => show Calls Tryz.prog 38 #[.pointer (some ⟨b, 0, none⟩)] W (fun r w' => ∃ A n c Ao co, r = .returned (.agg (evA x Ao co)) ∧ Re w' b A n c R 0 ∧ Ch (fun k => k = b) W w' ∧ Own w' W.heap.size 50 3 Ao x.over.length co (dts x.over)) from evget_put x R W b A n c h (HEV.out x hx))
  go_loopw [8] (fun i wr => ∃ (j : Nat) (A2 : Option Addr) (n2 c2 : Nat) (Es : List El) (Ae : Option Addr) (ce : Nat), j ≤ nn ∧ i = .int .u64 ((nn - j : Nat) : Int) ∧ Es.length = j ∧ eds Es = evs.take j ∧ QS w9 w9.heap.size b X wr A2 n2 c2 ((evs.drop j).flatMap evP) ⟨k, f, d, L, A7, c7, Es, Ae, ce⟩) (fun i _ => (intOf i).toNat)
  case atStart => exact ⟨0, A9, n9, c9, [], none, 0, by omega, rfl, rfl, rfl, HQ0.out⟩
  case round =>
    obtain ⟨j, A2, n2, c2, Es, Ae, ce, hj, rfl, hEl, hEd, hG⟩ := hrel
    have HE := Lib.hid (And.intro hEl hEd)
    have G8 := Lib.hid hG
    clear hG hEl hEd HQ0
    by_cases hlt : j < nn
    · obtain ⟨x, hx⟩ : ∃ x, evs[j]? = some x := ⟨evs[j]'(by have := HLn.out; omega), List.getElem?_eq_getElem _⟩
      obtain ⟨m, hm⟩ : ∃ m, nn - j = m + 1 := ⟨nn - j - 1, by omega⟩
      rw [hm]
      have hm2 : nn - (j + 1) = m := by omega
      have hm3 : m < 18446744073709551615 := by omega
      have HM2 := Lib.hid hm2
      clear hm2 hm
      have hdr : (evs.drop j).flatMap evP = evP x ++ (evs.drop (j + 1)).flatMap evP := by
        rw [List.drop_eq_getElem_cons (List.getElem?_eq_some_iff.1 hx).1, (List.getElem?_eq_some_iff.1 hx).2]
        rfl
      have htk := Lib.hid (show evs.take (j + 1) = evs.take j ++ [x] by rw [List.take_add_one, hx]; rfl)
      have hg := G8.out
      rw [hdr] at hg
      have G8 := Lib.hid hg
      have CGj := Lib.hid (CG.out x (List.mem_of_getElem? hx) ((evs.drop (j + 1)).flatMap evP))
      clear hg hdr hx
      have hm1 : (0 : Int) < ((m + 1 : Nat) : Int) := by omega
      go_wp2_with fail
      refine (CE.out _ _ _ _ _ G8.out.re).mono ?_; rintro r w10 ⟨rfl, rfl⟩
      go_wp2_with fail
      have c18 : wr.cell? ⟨X, 4, none⟩ = some (.slice Ae j ce) := by rw [G8.out.ms.cell]; show some (Value.slice Ae Es.length ce) = _; rw [HE.out.1]
      have hbX := Lib.hid (show b ≠ X by have := G8.out.bX; omega)
      refine wp_region_held_drew (S := (fun _ => True)) (by kernel_rfl) ?_ (fun hHeld => ?_)
      · (try dsimp only); skip
      refine wpAnyH_take (i := 0) (v := ?_) rfl (by kernel_rfl) (by kernel_rfl) (by kernel_rfl) (fun _ _ _ h => h) (Or.inl ⟨by rfl, ?_⟩) (by assumption) ?_
      rotate_left
      first | (focus ((intro w hSw; (try dsimp only at hSw); go_simp); (try with_reducible rfl); done)) | fail
      try simp only [Act.put, List.getElem_toArray, List.getElem_cons_zero, List.setIfInBounds_toArray, List.set_cons_zero, List.set_cons_succ]
      refine wpAnyH_take (i := 2) (v := ?_) rfl (by kernel_rfl) (by kernel_rfl) (by kernel_rfl) (fun _ _ _ h => h) (Or.inl ⟨by rfl, ?_⟩) (by assumption) ?_
      rotate_left
      first | (focus ((intro w hSw; (try dsimp only at hSw); go_simp); (try with_reducible rfl); done)) | fail
      try simp only [Act.put, List.getElem_toArray, List.getElem_cons_zero, List.getElem_cons_succ, List.setIfInBounds_toArray, List.set_cons_zero, List.set_cons_succ]
      refine wpAnyH_ready (rs := [1, 3]) (by kernel_rfl) (by simp) ?_
      refine AllReadyH.cons rfl (fun K hK => ?_) (AllReadyH.cons rfl (fun K hK => ?_) AllReadyH.nil)
      go_simp
      refine hK.out _ _ ?_ (fun hHeld => ?_)
      · (try dsimp only); skip
      clear hK K
      try simp only [Act.put, List.getElem_toArray, List.getElem_cons_zero, List.getElem_cons_succ, List.setIfInBounds_toArray, List.set_cons_zero, List.set_cons_succ]
      refine wpAnyH_ready (rs := [3]) (by kernel_rfl) (by simp) ?_
      refine AllReadyH.cons rfl (fun K hK => ?_) AllReadyH.nil
      go_simp
      refine (CGj.out _ _ _ _ (G8.out.low (Below.refl _ _).drew).re).mono ?_; rintro r v5 ⟨A5, n5, c5, Ao, co, rfl, hr5, hc5, ho5⟩
      go_wp2_with fail
      refine hK.out _ _ ?_ (fun hHeld => ?_)
      · (try dsimp only); skip
      clear hK K
      try simp only [Act.put, List.getElem_toArray, List.getElem_cons_zero, List.getElem_cons_succ, List.setIfInBounds_toArray, List.set_cons_zero, List.set_cons_succ]
      refine wpAnyH_ready (rs := [4]) (by kernel_rfl) (by simp) ?_
      refine AllReadyH.cons rfl (fun K hK => ?_) AllReadyH.nil
      refine step_bslice (by rfl) (.tmp 48) (by rfl) _ (by rfl) _ _ (bs_ev _ _ _ _) ?_
      refine hK.out _ _ ?_ (fun hHeld => ?_)
      · (try dsimp only); skip
      clear hK K
      try simp only [Act.put, List.getElem_toArray, List.getElem_cons_zero, List.getElem_cons_succ, List.setIfInBounds_toArray, List.set_cons_zero, List.set_cons_succ]
      rotate_left
      go_simp
      refine (CGj.out _ _ _ _ (G8.out.low (Below.refl _ _).drew).re).mono ?_; rintro r v5 ⟨A5, n5, c5, Ao, co, rfl, hr5, hc5, ho5⟩
      go_wp2_with fail
      refine hK.out _ _ ?_ (fun hHeld => ?_)
      · (try dsimp only); skip
      clear hK K
      try simp only [Act.put, List.getElem_toArray, List.getElem_cons_zero, List.getElem_cons_succ, List.setIfInBounds_toArray, List.set_cons_zero, List.set_cons_succ]
      have c15 : v5.cell? ⟨X, 4, none⟩ = some (.slice Ae j ce) := (hc5.cell (p := ⟨X, 4, none⟩) G8.out.ms.lt (fun e => hbX.out e.symm)).trans c18
      refine wpAnyH_ready (rs := [1, 4]) (by kernel_rfl) (by simp) ?_
      refine AllReadyH.cons rfl (fun K hK => ?_) (AllReadyH.cons rfl (fun K hK => ?_) AllReadyH.nil)
      go_simp
      refine hK.out _ _ ?_ (fun hHeld => ?_)
      · (try dsimp only); skip
      clear hK K
      try simp only [Act.put, List.getElem_toArray, List.getElem_cons_zero, List.getElem_cons_succ, List.setIfInBounds_toArray, List.set_cons_zero, List.set_cons_succ]
      refine wpAnyH_ready (rs := [4]) (by kernel_rfl) (by simp) ?_
      refine AllReadyH.cons rfl (fun K hK => ?_) AllReadyH.nil
      refine step_bslice (by rfl) (.tmp 48) (by rfl) _ (by rfl) _ _ (bs_ev _ _ _ _) ?_
      refine hK.out _ _ ?_ (fun hHeld => ?_)
      · (try dsimp only); skip
      clear hK K
      try simp only [Act.put, List.getElem_toArray, List.getElem_cons_zero, List.getElem_cons_succ, List.setIfInBounds_toArray, List.set_cons_zero, List.set_cons_succ]
      rotate_left
      have c16 := (World.cell?_alloc_some v5 ⟨X, 4, none⟩ (.cells (evA x Ao co) 59) (by rw [c15]; rfl)).trans c15
      refine step_bslice (by rfl) (.tmp 48) (by rfl) _ (by rfl) _ _ (bs_ev _ _ _ _) ?_
      refine hK.out _ _ ?_ (fun hHeld => ?_)
      · (try dsimp only); skip
      clear hK K
      try simp only [Act.put, List.getElem_toArray, List.getElem_cons_zero, List.getElem_cons_succ, List.setIfInBounds_toArray, List.set_cons_zero, List.set_cons_succ]
      refine wpAnyH_ready (rs := [1]) (by kernel_rfl) (by simp) ?_
      refine AllReadyH.cons rfl (fun K hK => ?_) AllReadyH.nil
      go_simp
      refine hK.out _ _ ?_ (fun hHeld => ?_)
      · (try dsimp only); skip
      clear hK K
      try simp only [Act.put, List.getElem_toArray, List.getElem_cons_zero, List.getElem_cons_succ, List.setIfInBounds_toArray, List.set_cons_zero, List.set_cons_succ]
      all_goals
        have G9 := Lib.hid ((G8.out.low (Below.refl _ _).drew).read hr5 hc5)
        have hoy := Lib.hid (show Own v5 w9.heap.size 50 3 Ao x.over.length co (dts x.over) from ho5.base_le (by have := G8.out.sz; simpa using this))
        clear hr5 hc5 ho5
        have h6 := app1e v5 w9.heap.size Ae j ce (Es.flatMap elC) (by have := G9.out.ow; simp only [HE.out.1] at this; exact this) ⟨x, Ao, co⟩ (by omega) G9.out.sz
        simp only at h6
        obtain ⟨A6, c6, w6, q6, o6, gr6, b6, nr6⟩ := h6
        have hoy6 : Own w6 w9.heap.size 50 3 Ao x.over.length co (dts x.over) := hoy.out.ch gr6 (fun g _ _ hg e => hoy.out.apart G9.out.ow (by decide) g hg e.symm)
        have c7' : w6.cell? ⟨X, 4, none⟩ = some (.slice Ae j ce) := by rw [(G9.out.mid gr6).2.1.cell]; show some (Value.slice Ae Es.length ce) = _; rw [HE.out.1]
        have f7 : w6.frozen? ⟨X, 4, none⟩ = false := (G9.out.mid gr6).2.1.free 4
        have G10 := Lib.hid (show QS w9 w9.heap.size b X (w6.setCell ⟨X, 4, none⟩ (.slice A6 (j + 1) c6)) A5 n5 c5 ((evs.drop (j + 1)).flatMap evP) ⟨k, f, d, L, A7, c7, Es ++ [⟨x, Ao, co⟩], A6, c6⟩ from by
          have h := G9.out.app (A2 := A6) (c2 := c6) (y := ⟨x, Ao, co⟩) gr6 (by simp only [HE.out.1]; exact o6) hoy6
          simp only [HE.out.1] at h
          exact h)
        have HE2 := Lib.hid (show (Es ++ [(⟨x, Ao, co⟩ : El)]).length = j + 1 ∧ eds (Es ++ [(⟨x, Ao, co⟩ : El)]) = evs.take (j + 1) from ⟨by rw [List.length_append, HE.out.1]; rfl, by rw [htk.out, ← HE.out.2]; simp [eds]⟩)
        clear gr6 o6 b6 nr6 hoy6
        refine wpAnyH_ready (rs := [5]) (by kernel_rfl) (by simp) ?_
        refine AllReadyH.cons rfl (fun K hK => ?_) AllReadyH.nil
        refine step_append_run (by rfl) (.tmp 46) (.tmp 49) _ _ (by rfl) _ _ (by rfl) (by rfl) _ _ q6 ?_
        refine hK.out _ _ ?_ (fun hHeld => ?_)
        · (try dsimp only); skip
        clear hK K
        try simp only [Act.put, List.getElem_toArray, List.getElem_cons_zero, List.getElem_cons_succ, List.setIfInBounds_toArray, List.set_cons_zero, List.set_cons_succ]
        refine wpAnyH_take (i := 6) (v := ?_) rfl (by kernel_rfl) (by kernel_rfl) (by kernel_rfl) (fun _ _ _ h => h) (Or.inl ⟨by rfl, ?_⟩) (by assumption) ?_
        rotate_left
        first | (focus ((intro w hSw; (try dsimp only at hSw); go_simp); (try with_reducible rfl); done)) | fail
        try simp only [Act.put, List.getElem_toArray, List.getElem_cons_zero, List.getElem_cons_succ, List.setIfInBounds_toArray, List.set_cons_zero, List.set_cons_succ]
        refine wpAnyH_ready (rs := [7]) (by kernel_rfl) (by simp) ?_
        refine AllReadyH.cons rfl (fun K hK => ?_) AllReadyH.nil
        go_simp
        refine hK.out _ _ ?_ (fun hHeld => ?_)
        · (try dsimp only); skip
        clear hK K
        try simp only [Act.put, List.getElem_toArray, List.getElem_cons_zero, List.getElem_cons_succ, List.setIfInBounds_toArray, List.set_cons_zero, List.set_cons_succ]
        refine wpAnyH_done (by kernel_rfl) ?_ _
        go_wp2
        go_roundw
        case rel =>
          exact ⟨j + 1, A5, n5, c5, _, A6, c6, by omega, by rw [HM2.out], HE2.out.1, HE2.out.2, G10.out⟩
        case measure => simp only [intOf]; omega
    · have hj' : nn = j := by omega
      subst hj'
      have hz0 : nn - nn = 0 := by omega
      have hg := G8.out
      rw [List.drop_of_length_le (l := evs) (i := nn) (by have := HLn.out; omega)] at hg
      have G9 := Lib.hid (show QS w9 w9.heap.size b X wr A2 n2 c2 [] ⟨k, f, d, L, A7, c7, Es, Ae, ce⟩ from hg)
      have HEs := Lib.hid (show eds Es = evs by rw [HE.out.2, List.take_of_length_le (l := evs) (i := nn) (by have := HLn.out; omega)])
      have HLe := Lib.hid (show Es.length ≤ 64 by rw [HE.out.1]; exact h64)
      clear hg G8 CG HE
      have HMr := Lib.hid (show MsAt wr A7 L from HM9.out.ch G9.out.ch (fun g hg e => by rcases e with e | e; exact (HMX.out g hg).1 e; exact (HMX.out g hg).2.1 e))
      have HAt := Lib.hid (show MlAt wr wr.heap.size ⟨k, f, d, L, A7, c7, Es, Ae, ce⟩ from ⟨HMr.out, ⟨by have := G9.out.ow.rd; exact this, fun y hy => (G9.out.ov y hy).ds⟩⟩)
      have HOk := Lib.hid (show MlOk ⟨k, f, d, L, A7, c7, Es, Ae, ce⟩ from ⟨fun y hy => ev_short (HEV.out y.e (by rw [← HEs.out]; exact List.mem_map_of_mem hy)), hlm, by have := HLe.out; simp only; omega⟩)
      have HMM := Lib.hid (show mlM ⟨k, f, d, L, A7, c7, Es, Ae, ce⟩ = ⟨k, f, d, L, evs⟩ by unfold mlM; simp only; rw [HEs.out])
      have CRt := Lib.hid (show Calls Tryz.prog 20 #[.agg (mlC ⟨k, f, d, L, A7, c7, Es, Ae, ce⟩)] wr (fun r w' => r = .returned (.bool true) ∧ Below wr.heap.size wr w') by
        have h := mright_any ⟨k, f, d, L, A7, c7, Es, Ae, ce⟩ wr HAt.out HOk.out
        rw [HMM.out, HQ.out] at h
        exact h)
      have CN := Lib.hid (show Calls Tryz.prog 39 #[.pointer (some ⟨b, 0, none⟩)] wr (fun e w' => e = .returned (.int .i64 0) ∧ wr = w') from rend_any wr b A2 n2 c2 [] 0 G9.out.re)
      rw [hz0]
      clear hz0 HM9
      go_wp2_with fail
      refine CN.out.mono ?_; rintro r w10 ⟨rfl, rfl⟩
      have HZr := Lib.hid (HZ9.out.ch G9.out.ch (fun e => by rcases e with e | e <;> omega))
      have hlz := HZr.out.lt
      have Br := Lib.hid (show Below w.heap.size w wr from B9.out.trans (G9.out.ch.below (fun g hg e => by rcases e with e | e <;> omega) (by have := HZ9.out.lt; omega)))
      clear HZ9 B9 CN
      go_wp2_with (refine ld_whole (by rfl) _ rfl rfl G9.out.ms Tryz.underlying30 rfl (by kernel_rfl) ?_)
      refine CRt.out.mono ?_; rintro r w11 ⟨rfl, b11⟩
      have hMs := G9.out.ms.below b11 G9.out.ms.lt
      have HMs := Lib.hid hMs
      have HZ12 := Lib.hid (HZr.out.below b11 hlz)
      have B12 := Lib.hid (Br.out.trans (below_of_le b11 (by omega)))
      have G12 := Lib.hid (G9.out.low b11)
      have HM12 := Lib.hid (show MsAt w11 A7 L from MsAt.up HMr.out b11)
      clear b11 Br HZr hMs G9 HAt CRt HMr
      go_wp2_with (first | (refine ld_whole (by rfl) _ rfl rfl HMs.out Tryz.underlying30 rfl (by kernel_rfl) ?_) | (refine st_whole (by rfl) _ _ rfl rfl rfl HZ12.out (by rfl) (by kernel_rfl) (by rfl) ?_; intro W14 hX14 hC14 hz14; have H14 := Lib.hid (And.intro hX14 (And.intro hC14 hz14)); clear hX14 hC14 hz14))
      have hN9 : w.heap.size < w9.heap.size := by have := G12.out.bN; omega
      have HF := Lib.hid (show MlAt W14 W14.heap.size ⟨k, f, d, L, A7, c7, Es, Ae, ce⟩ from ⟨HM12.out.ch H14.out.2.1 (fun g hg e => (HMX.out g hg).2.2 e), ⟨by have := (G12.out.ow.ch H14.out.2.1 (fun g hg _ _ e => by omega)).rd; exact this, fun y hy => ((G12.out.ov y hy).ch H14.out.2.1 (fun g hg _ _ e => by omega)).ds⟩⟩)
      exact bodyPost_ret (results_cell2 rfl rfl H14.out.1.range Tryz.underlying30 rfl (by kernel_rfl)) rfl ⟨⟨k, f, d, L, A7, c7, Es, Ae, ce⟩, rfl, HMM.out, HF.out, B12.out.trans (H14.out.2.1.below (fun g hg e => by omega) (by have := HZ12.out.lt; omega))⟩
end Go.Proofs.YtpakmeegldgjmaaGreat
/- Layers 20, 35: Same of what says the same, Light, by the document. -/
namespace Go.Proofs.YtpakmeegldgjmaaGreat
open Go.RowKit
set_option linter.unusedVariables false
set_option linter.unusedSimpArgs false
set_option maxRecDepth 100000
attribute [local go_sem ↓] Go.wp_at_zero Go.wp_at_succ
attribute [local go_sem] bs_size bs_list bs_nil_list

theorem eql_st1 (d i s : Int) (w : World) : (binOp .eql 52 (.agg #[.int .i64 d, .int .i64 i, .int .i64 s]) (.agg #[.int .i64 d, .int .i64 i, .int .i64 s])).run Tryz.prog w = .ok (.bool true) w := by
  rw [run_eql_struct, run_equalIn_agg w 9999 _ _ _ (by kernel_rfl) (by kernel_rfl)]
  simp [Program.fieldsOf, Tryz.underlying52, Op.eqFields, go_sem, Tryz.underlying3]
theorem eql_dt1 (d i s : Int) (w : World) : (binOp .eql 50 (.agg #[.int .i64 d, .int .i64 i, .int .i64 s]) (.agg #[.int .i64 d, .int .i64 i, .int .i64 s])).run Tryz.prog w = .ok (.bool true) w := by
  have h := eql_dot d i s d i s w
  simpa [dotV] using h
theorem eql_key1 (n d p : List UInt8) (w : World) : (binOp .eql 54 (.agg #[.string (bs n), .string (bs d), .string (bs p)]) (.agg #[.string (bs n), .string (bs d), .string (bs p)])).run Tryz.prog w = .ok (.bool true) w := by
  rw [run_eql_struct, run_equalIn_agg w 9999 _ _ _ (by kernel_rfl) (by kernel_rfl)]
  simp [Program.fieldsOf, Tryz.underlying54, Op.eqFields, go_sem, Tryz.underlying9]
theorem eql_cook1 (v : List UInt8) (ho se ht pe : Bool) (exp cre acc : Int) (w : World) : (binOp .eql 56 (.agg #[.string (bs v), .bool ho, .bool se, .bool ht, .bool pe, .int .i64 exp, .int .i64 cre, .int .i64 acc]) (.agg #[.string (bs v), .bool ho, .bool se, .bool ht, .bool pe, .int .i64 exp, .int .i64 cre, .int .i64 acc])).run Tryz.prog w = .ok (.bool true) w := by
  rw [run_eql_struct, run_equalIn_agg w 9999 _ _ _ (by kernel_rfl) (by kernel_rfl)]
  simp [Program.fieldsOf, Tryz.underlying56, Op.eqFields, go_sem, Tryz.underlying9, Tryz.underlying4, Tryz.underlying3]
set_option maxHeartbeats 4000000 in
theorem rsame20_eq (e : Ed) (A A' : Option Addr) (c c' : Nat) (w : World) (h : MsAt w A e.over) (h' : MsAt w A' e.over) (hn : e.over.length ≤ 1000000) :
    Calls Tryz.prog 53 #[.agg (evA e A c), .agg (evA e A' c')] w fun r w' => r = .returned (.bool true) ∧ Below w.heap.size w w' := by
  have CS := Lib.hid (fun (W : World) (hb : Below w.heap.size w W) => by have := rsame16_any W W.heap.size W.heap.size A A' c c' e.over e.over (MsAt.up h hb) (MsAt.up h' hb) (Nat.le_refl _) (Nat.le_refl _) (by omega); rw [decide_eq_true rfl] at this; exact this)
  have hb := ((Below.refl w.heap.size w).alloc (Nat.le_refl _) (.cells (evA e A c) 59)).alloc (by simp) (.cells (evA e A' c') 59)
  have k1 := eql_dt1 e.dot.1.1 e.dot.1.2 e.dot.2
  have k2 := eql_st1 e.st.1 e.st.2.1 e.st.2.2
  have k3 := eql_key1 e.name e.dom e.path
  have k4 := eql_cook1 e.value e.ho e.se e.ht e.pe e.exp e.cre e.acc
  have k5 : (e.kind == e.kind) = true := by simp
  clear h h'
  unfold evA at hb ⊢
  have HB := Lib.hid hb
  clear hb
  go_enter Tryz.func53, Tryz.ntmps53
  go_wp2_with fail
  refine (CS.out _ HB.out).mono ?_; rintro r w5 ⟨rfl, b5⟩
  have B5 := Lib.hid (HB.out.trans (below_of_le b5 (by simp; omega)))
  clear b5
  go_wp2
  go_ret
  exact ⟨rfl, B5.out⟩
set_option maxHeartbeats 4000000 in
theorem rsameall_eq (Es Fs : List El) (A A' : Option Addr) (c c' : Nat) (w : World) (h : EsAt w w.heap.size A Es) (h' : EsAt w w.heap.size A' Fs) (he : eds Es = eds Fs) (hs : shorts Es) (hn : Es.length ≤ 1000000) :
    Calls Tryz.prog 18 #[.slice A Es.length c, .slice A' Fs.length c'] w fun r w' => r = .returned (.bool true) ∧ Below w.heap.size w w' := by
  have hl : Fs.length = Es.length := by have := congrArg List.length he; simp [eds] at this; omega
  rw [hl]
  have HL2 := Lib.hid hl
  generalize hlen : Es.length = n at *
  have HLn := Lib.hid hlen
  have HR := Lib.hid (And.intro h h')
  have HE := Lib.hid (And.intro he hs)
  clear hlen h h' he hl hs
  go_enter Tryz.func18, Tryz.ntmps18
  go_wp2_with fail
  go_loopw [5] (fun i wr => ∃ j : Nat, j ≤ n ∧ i = .int .i64 j ∧ Below w.heap.size w wr) (fun i _ => n - (intOf i).toNat)
  case atStart => exact ⟨0, by omega, rfl, Below.refl _ _⟩
  case round =>
    obtain ⟨j, hj, rfl, hb⟩ := hrel
    have HB := Lib.hid hb
    clear hb
    by_cases hlt : j < n
    · obtain ⟨x, hx⟩ : ∃ x, Es[j]? = some x := ⟨Es[j]'(by have := HLn.out; omega), List.getElem?_eq_getElem _⟩
      obtain ⟨y, hy⟩ : ∃ y, Fs[j]? = some y := ⟨Fs[j]'(by have := HL2.out; omega), List.getElem?_eq_getElem _⟩
      obtain ⟨b0, o0, hA, hbN, hrg, hds⟩ := (HR.out.1.below HB.out).at_ hx
      obtain ⟨b1, o1, hA', hbN', hrg', hds'⟩ := (HR.out.2.below HB.out).at_ hy
      subst hA hA'
      have hxy : y.e = x.e := by
        have h1 := eds_get hx
        have h2 := eds_get hy
        rw [HE.out.1, h2] at h1
        injection h1
      have hsx := HE.out.2 x (List.mem_of_getElem? hx)
      rw [hxy] at hrg' hds'
      have hNr : w.heap.size ≤ wr.heap.size := HB.out.size
      have CS := Lib.hid (rsame20_eq x.e x.A y.A x.c y.c wr.drew (Ds.more hds hNr) (Ds.more hds' hNr) hsx.2.2.2.2)
      have HRG := Lib.hid (And.intro hrg hrg')
      clear hx hy hrg hrg' hds hds' hsx hxy
      go_upto_region 6 with fail
      refine wp_region_held_drew (S := (fun W => W.rangeAt b0 (o0 + j * 19) (evA x.e x.A x.c).toList ∧ W.rangeAt b1 (o1 + j * 19) (evA x.e y.A y.c).toList)) (by kernel_rfl) ?_ (fun hHeld => ?_)
      · (try dsimp only); exact HRG.out
      refine wpAnyH_take (i := 0) (v := ?_) rfl (by kernel_rfl) (by kernel_rfl) (by kernel_rfl) (fun _ _ _ h => h) (Or.inl ⟨by rfl, ?_⟩) (by assumption) ?_
      rotate_left
      first | (focus ((intro w hSw; (try dsimp only at hSw); go_simp); (try with_reducible rfl); done)) | fail
      try simp only [Act.put, List.getElem_toArray, List.getElem_cons_zero, List.setIfInBounds_toArray, List.set_cons_zero, List.set_cons_succ]
      refine wpAnyH_take (i := 1) (v := ?_) rfl (by kernel_rfl) (by kernel_rfl) (by kernel_rfl) (fun _ _ _ h => h) (Or.inl ⟨by rfl, ?_⟩) (by assumption) ?_
      rotate_left
      first | (focus ((intro w hSw; (try dsimp only at hSw); go_simp); (try with_reducible rfl); done)) | fail
      try simp only [Act.put, List.getElem_toArray, List.getElem_cons_zero, List.getElem_cons_succ, List.setIfInBounds_toArray, List.set_cons_zero, List.set_cons_succ]
      refine wpAnyH_take (i := 2) (v := ?_) rfl (by kernel_rfl) (by kernel_rfl) (by kernel_rfl) (fun _ _ _ h => h) (Or.inl ⟨by rfl, ?_⟩) (by assumption) ?_
      rotate_left
      first | (focus ((intro w hSw; (try dsimp only at hSw); go_simp); (try with_reducible rfl); done)) | fail
      try simp only [Act.put, List.getElem_toArray, List.getElem_cons_zero, List.getElem_cons_succ, List.setIfInBounds_toArray, List.set_cons_zero, List.set_cons_succ]
      refine wpAnyH_take (i := 3) rfl (by kernel_rfl) (by kernel_rfl) (by kernel_rfl) (fun _ _ _ h => h) (take_range (by rfl) _ rfl rfl (fun W h => h.1) Tryz.underlying59 rfl (by kernel_rfl)) (by assumption) ?_
      try simp only [Act.put, List.getElem_toArray, List.getElem_cons_zero, List.getElem_cons_succ, List.setIfInBounds_toArray, List.set_cons_zero, List.set_cons_succ]
      refine wpAnyH_take (i := 4) (v := ?_) rfl (by kernel_rfl) (by kernel_rfl) (by kernel_rfl) (fun _ _ _ h => h) (Or.inl ⟨by rfl, ?_⟩) (by assumption) ?_
      rotate_left
      first | (focus ((intro w hSw; (try dsimp only at hSw); go_simp); (try with_reducible rfl); done)) | fail
      try simp only [Act.put, List.getElem_toArray, List.getElem_cons_zero, List.getElem_cons_succ, List.setIfInBounds_toArray, List.set_cons_zero, List.set_cons_succ]
      refine wpAnyH_take (i := 5) (v := ?_) rfl (by kernel_rfl) (by kernel_rfl) (by kernel_rfl) (fun _ _ _ h => h) (Or.inl ⟨by rfl, ?_⟩) (by assumption) ?_
      rotate_left
      first | (focus ((intro w hSw; (try dsimp only at hSw); go_simp); (try with_reducible rfl); done)) | fail
      try simp only [Act.put, List.getElem_toArray, List.getElem_cons_zero, List.getElem_cons_succ, List.setIfInBounds_toArray, List.set_cons_zero, List.set_cons_succ]
      refine wpAnyH_take (i := 6) (v := ?_) rfl (by kernel_rfl) (by kernel_rfl) (by kernel_rfl) (fun _ _ _ h => h) (Or.inl ⟨by rfl, ?_⟩) (by assumption) ?_
      rotate_left
      first | (focus ((intro w hSw; (try dsimp only at hSw); go_simp); (try with_reducible rfl); done)) | fail
      try simp only [Act.put, List.getElem_toArray, List.getElem_cons_zero, List.getElem_cons_succ, List.setIfInBounds_toArray, List.set_cons_zero, List.set_cons_succ]
      refine wpAnyH_take (i := 7) rfl (by kernel_rfl) (by kernel_rfl) (by kernel_rfl) (fun _ _ _ h => h) (take_range (by rfl) _ rfl rfl (fun W h => h.2) Tryz.underlying59 rfl (by kernel_rfl)) (by assumption) ?_
      try simp only [Act.put, List.getElem_toArray, List.getElem_cons_zero, List.getElem_cons_succ, List.setIfInBounds_toArray, List.set_cons_zero, List.set_cons_succ]
      refine wpAnyH_ready (rs := [8]) (by kernel_rfl) (by simp) ?_
      refine AllReadyH.cons rfl (fun K hK => ?_) AllReadyH.nil
      go_simp
      refine CS.out.mono ?_; rintro r w5 ⟨rfl, b5⟩
      go_wp2_with fail
      refine hK.out _ _ ?_ (fun hHeld => ?_)
      · (try dsimp only); exact ⟨range_below hHeld.1 b5 (by show b0 < wr.heap.size; omega), range_below hHeld.2 b5 (by show b1 < wr.heap.size; omega)⟩
      clear hK K
      try simp only [Act.put, List.getElem_toArray, List.getElem_cons_zero, List.getElem_cons_succ, List.setIfInBounds_toArray, List.set_cons_zero, List.set_cons_succ]
      have B5 := Lib.hid (HB.out.drew.trans (below_of_le b5 hNr))
      clear b5
      refine wpAnyH_take (i := 9) (v := ?_) rfl (by kernel_rfl) (by kernel_rfl) (by kernel_rfl) (fun _ _ _ h => h) (Or.inl ⟨by rfl, ?_⟩) (by assumption) ?_
      rotate_left
      first | (focus ((intro w hSw; (try dsimp only at hSw); go_simp); (try with_reducible rfl); done)) | fail
      try simp only [Act.put, List.getElem_toArray, List.getElem_cons_zero, List.getElem_cons_succ, List.setIfInBounds_toArray, List.set_cons_zero, List.set_cons_succ]
      refine wpAnyH_done (by kernel_rfl) ?_ _
      go_wp2
      go_roundw
      case rel => exact ⟨j + 1, by omega, by go_num, B5.out⟩
      case measure => simp [intOf]; omega
    · have hj' : n = j := by omega
      subst hj'
      go_wp2
      go_ret
      exact ⟨rfl, HB.out⟩
end Go.Proofs.YtpakmeegldgjmaaGreat
/- Layers 20, 35: Light, LightAll, by the document. -/
namespace Go.Proofs.YtpakmeegldgjmaaGreat
open Go.RowKit
set_option linter.unusedVariables false
set_option linter.unusedSimpArgs false
set_option maxRecDepth 100000
attribute [local go_sem ↓] Go.wp_at_zero Go.wp_at_succ
attribute [local go_sem] bs_size bs_list bs_nil_list

def lgE (e : Ed) : Bool := decide (e.over.length ≤ 100) && decide (e.name.length ≤ 2000) && decide (e.dom.length ≤ 2000) && decide (e.path.length ≤ 2000) && decide (e.value.length ≤ 2000)
def lgA (es : List Ed) (most : Nat) : Bool := decide (es.length ≤ most) && es.all lgE
theorem lgE_short {e : Ed} (h : lgE e = true) : short e := by
  unfold lgE at h
  simp only [Bool.and_eq_true, decide_eq_true_eq] at h
  exact ⟨by omega, by omega, by omega, by omega, by omega⟩
set_option maxHeartbeats 4000000 in
theorem light20_any (e : Ed) (A : Option Addr) (c : Nat) (w : World) :
    Calls Tryz.prog 41 #[.agg (evA e A c)] w fun r w' => r = .returned (.bool (lgE e)) ∧ Below w.heap.size w w' := by
  have hb := (Below.refl w.heap.size w).alloc (Nat.le_refl _) (.cells (evA e A c) 59)
  have HV := Lib.hid (show lgE e = (decide (e.over.length ≤ 100) && decide (e.name.length ≤ 2000) && decide (e.dom.length ≤ 2000) && decide (e.path.length ≤ 2000) && decide (e.value.length ≤ 2000)) from rfl)
  unfold evA at hb ⊢
  have HB := Lib.hid hb
  clear hb
  by_cases h0 : e.over.length ≤ 100
  · have t0 : decide ((e.over.length : Int) ≤ 100) = true := decide_eq_true (by omega)
    by_cases h1 : e.name.length ≤ 2000
    · have t1 : decide ((e.name.length : Int) ≤ 2000) = true := decide_eq_true (by omega)
      by_cases h2 : e.dom.length ≤ 2000
      · have t2 : decide ((e.dom.length : Int) ≤ 2000) = true := decide_eq_true (by omega)
        by_cases h3 : e.path.length ≤ 2000
        · have t3 : decide ((e.path.length : Int) ≤ 2000) = true := decide_eq_true (by omega)
          by_cases h4 : e.value.length ≤ 2000
          · have t4 : decide ((e.value.length : Int) ≤ 2000) = true := decide_eq_true (by omega)
            have HX := Lib.hid (show lgE e = true by rw [HV.out]; simp [h0, h1, h2, h3, h4])
            clear h0 h1 h2 h3 h4
            go_enter Tryz.func41, Tryz.ntmps41
            go_wp2
            go_ret
            exact ⟨ret_bool HX.out.symm, HB.out⟩
          · have t4 : decide ((e.value.length : Int) ≤ 2000) = false := decide_eq_false (by omega)
            have HX := Lib.hid (show lgE e = false by rw [HV.out]; simp [h0, h1, h2, h3, h4])
            clear h0 h1 h2 h3 h4
            go_enter Tryz.func41, Tryz.ntmps41
            go_wp2
            go_ret
            exact ⟨ret_bool HX.out.symm, HB.out⟩
        · have t3 : decide ((e.path.length : Int) ≤ 2000) = false := decide_eq_false (by omega)
          have HX := Lib.hid (show lgE e = false by rw [HV.out]; simp [h0, h1, h2, h3])
          clear h0 h1 h2 h3
          go_enter Tryz.func41, Tryz.ntmps41
          go_wp2
          go_ret
          exact ⟨ret_bool HX.out.symm, HB.out⟩
      · have t2 : decide ((e.dom.length : Int) ≤ 2000) = false := decide_eq_false (by omega)
        have HX := Lib.hid (show lgE e = false by rw [HV.out]; simp [h0, h1, h2])
        clear h0 h1 h2
        go_enter Tryz.func41, Tryz.ntmps41
        go_wp2
        go_ret
        exact ⟨ret_bool HX.out.symm, HB.out⟩
    · have t1 : decide ((e.name.length : Int) ≤ 2000) = false := decide_eq_false (by omega)
      have HX := Lib.hid (show lgE e = false by rw [HV.out]; simp [h0, h1])
      clear h0 h1
      go_enter Tryz.func41, Tryz.ntmps41
      go_wp2
      go_ret
      exact ⟨ret_bool HX.out.symm, HB.out⟩
  · have t0 : decide ((e.over.length : Int) ≤ 100) = false := decide_eq_false (by omega)
    have HX := Lib.hid (show lgE e = false by rw [HV.out]; simp [h0])
    clear h0
    go_enter Tryz.func41, Tryz.ntmps41
    go_wp2
    go_ret
    exact ⟨ret_bool HX.out.symm, HB.out⟩
theorem all_take_step' {α : Type} {L : List α} {j : Nat} {p : α} {f : α → Bool} (h : (L.take j).all f = true) (hp : L[j]? = some p) (ho : f p = true) : (L.take (j + 1)).all f = true := by
  rw [List.take_add_one, hp]
  simp only [List.all_append, h, Bool.true_and]
  simp [ho]
theorem all_at' {α : Type} {L : List α} {j : Nat} {p : α} {f : α → Bool} (hp : L[j]? = some p) (ho : f p = false) : L.all f = false := by
  rw [List.all_eq_false]
  exact ⟨p, List.mem_of_getElem? hp, by simp [ho]⟩
set_option maxHeartbeats 4000000 in
theorem lightall_any (Es : List El) (A : Option Addr) (c most : Nat) (w : World) (h : EsAt w w.heap.size A Es) (hn : Es.length ≤ 9223372036854775807) :
    Calls Tryz.prog 13 #[.slice A Es.length c, .int .i64 most] w fun r w' => r = .returned (.bool (lgA (eds Es) most)) ∧ Below w.heap.size w w' := by
  have HV := Lib.hid (show lgA (eds Es) most = (decide (Es.length ≤ most) && (eds Es).all lgE) by unfold lgA; rw [show (eds Es).length = Es.length by simp [eds]])
  generalize hlen : Es.length = n at *
  have HLn := Lib.hid hlen
  have HEs := Lib.hid h
  clear hlen h
  by_cases hm : n ≤ most
  · have t1 : decide ((most : Int) < (n : Int)) = false := decide_eq_false (by omega)
    have t2 : decide (most < n) = false := decide_eq_false (by omega)
    have HV2 := Lib.hid (show lgA (eds Es) most = (eds Es).all lgE by rw [HV.out, decide_eq_true hm]; rfl)
    clear hm HV
    go_enter Tryz.func13, Tryz.ntmps13
    go_wp2_with fail
    go_loopw [5] (fun i wr => ∃ j : Nat, j ≤ n ∧ i = .int .i64 j ∧ ((eds Es).take j).all lgE = true ∧ Below w.heap.size w wr) (fun i _ => n - (intOf i).toNat)
    case atStart => exact ⟨0, by omega, rfl, rfl, Below.refl _ _⟩
    case round =>
      obtain ⟨j, hj, rfl, hk, hb⟩ := hrel
      have HK := Lib.hid (And.intro hk hb)
      clear hk hb
      by_cases hlt : j < n
      · obtain ⟨x, hx⟩ : ∃ x, Es[j]? = some x := ⟨Es[j]'(by have := HLn.out; omega), List.getElem?_eq_getElem _⟩
        obtain ⟨b0, o0, hA, hbN, hrg, hds⟩ := (HEs.out.below HK.out.2).at_ hx
        subst hA
        have HXj := Lib.hid (eds_get hx)
        have CL0 := fun w => light20_any x.e x.A x.c w
        have HRG := Lib.hid hrg
        clear hx hrg hds
        cases hr : lgE x.e with
        | false =>
          rw [hr] at CL0
          have CL := Lib.hid CL0
          have HX := Lib.hid (show lgA (eds Es) most = false by rw [HV2.out]; exact all_at' HXj.out hr)
          clear CL0 hr
          go_wp2_with (refine ld_range (by rfl) _ rfl rfl HRG.out Tryz.underlying59 rfl (by kernel_rfl) ?_)
          refine (CL.out _).mono ?_; rintro r w5 ⟨rfl, b5⟩
          have B5 := Lib.hid (HK.out.2.trans (below_of_le b5 HK.out.2.size))
          clear b5
          go_wp2
          go_ret
          exact ⟨ret_bool HX.out.symm, B5.out⟩
        | true =>
          rw [hr] at CL0
          have CL := Lib.hid CL0
          have HX := Lib.hid (all_take_step' HK.out.1 HXj.out hr)
          clear CL0 hr
          go_wp2_with (refine ld_range (by rfl) _ rfl rfl HRG.out Tryz.underlying59 rfl (by kernel_rfl) ?_)
          refine (CL.out _).mono ?_; rintro r w5 ⟨rfl, b5⟩
          have B5 := Lib.hid (HK.out.2.trans (below_of_le b5 HK.out.2.size))
          clear b5
          go_wp2
          go_roundw
          case rel => exact ⟨j + 1, by omega, by go_num, HX.out, B5.out⟩
          case measure => simp [intOf]; omega
      · have hj' : n = j := by omega
        subst hj'
        have HX := Lib.hid (show lgA (eds Es) most = true by rw [HV2.out]; have := HK.out.1; rwa [List.take_of_length_le (by unfold eds; rw [List.length_map]; have := HLn.out; omega)] at this)
        go_wp2
        go_ret
        exact ⟨ret_bool HX.out.symm, HK.out.2⟩
  · have t1 : decide ((most : Int) < (n : Int)) = true := decide_eq_true (by omega)
    have t2 : decide (most < n) = true := decide_eq_true (by omega)
    have HX := Lib.hid (show lgA (eds Es) most = false by rw [HV.out, decide_eq_false hm]; rfl)
    clear hm
    go_enter Tryz.func13, Tryz.ntmps13
    go_wp2
    go_ret
    exact ⟨ret_bool HX.out.symm, Below.refl _ _⟩
end Go.Proofs.YtpakmeegldgjmaaGreat
/- Layer 35 (msg): awake. -/
namespace Go.Proofs.YtpakmeegldgjmaaGreat
open Go.RowKit
set_option linter.unusedVariables false
set_option linter.unusedSimpArgs false
set_option maxRecDepth 100000
attribute [local go_sem ↓] Go.wp_at_zero Go.wp_at_succ
attribute [local go_sem] bs_size bs_list bs_nil_list

theorem ml_none (w : World) (B : Nat) (k f d : Int) : MlAt w B ⟨k, f, d, [], none, 0, [], none, 0⟩ := ⟨⟨rfl, fun h => absurd h (by simp)⟩, ⟨⟨rfl, fun h => absurd h (by simp)⟩, by simp⟩⟩
/-- The bytes of a message that may be, parsed. -/
theorem parse_bytes (m : Md) (hq : msB m = true) (hlm : m.marks.length ≤ 1000) (h64 : m.evs.length ≤ 64) (A : Option Addr) (c : Nat) (B : Nat) (w : World) (ho : Own w B 5 1 A (msF m).length c (bv (msF m))) (hl : (msF m).length ≤ 1000000) :
    Calls Tryz.prog 11 #[.slice A (msF m).length c] w (ParE w m) :=
  msgparse_any m hq hlm h64 A _ c w (by have := ho.rd; exact this) hl ho.2.1 ho.2.2
theorem frm_len {l : List UInt8} (h : l.length < 18446744073709551616) : (Go.Proofs.YtpakmeegldgjmaaGreat.frm l).length ≤ l.length + 14 := by
  unfold Go.Proofs.YtpakmeegldgjmaaGreat.frm
  have := vput_le h
  simp only [List.length_append, leB_length]
  omega
theorem msF_len {m : Md} (h : msB m = true) (hm : m.marks.length ≤ 1000) (he : m.evs.length ≤ 64) : (msF m).length ≤ 300014 := by
  have h1 := msP_len h hm he
  have h2 := frm_len (l := msP m) (by omega)
  unfold msF
  omega
set_option maxHeartbeats 2000000 in
theorem awake35_any (w : World) : Calls Tryz.prog 5 #[] w fun r w' => r = .returned (.bool true) ∧ Below w.heap.size w w' := by
  have hq : msB (mlM ⟨3, 0, 1, [], none, 0, [], none, 0⟩) = true := by decide +kernel
  have CB := Lib.hid (msgbytes_any ⟨3, 0, 1, [], none, 0, [], none, 0⟩ w (ml_none _ _ _ _ _) ⟨by intro y hy; simp at hy, by simp, by simp⟩ (by simp) hq)
  have hl := msF_len hq (by simp [mlM]) (by simp [mlM, eds])
  have CP := Lib.hid (fun A c W ho => parse_bytes (mlM ⟨3, 0, 1, [], none, 0, [], none, 0⟩) hq (by simp [mlM]) (by simp [mlM, eds]) A c w.heap.size W ho (by omega))
  have HM := Lib.hid (show mlM ⟨3, 0, 1, [], none, 0, [], none, 0⟩ = ⟨3, 0, 1, [], []⟩ from rfl)
  clear hq hl
  unfold mlC at CB
  simp only [List.length_nil] at CB
  rw [HM.out] at CP CB
  generalize msF ⟨3, 0, 1, [], []⟩ = F at *
  rw [show (((0 : Nat) : Nat) : Nat) = 0 from rfl] at CB
  go_enter Tryz.func5, Tryz.ntmps5
  go_wp2_with fail
  refine CB.out.mono ?_; rintro r w1 ⟨A1, c1, rfl, o1, b1⟩
  have CP1 := Lib.hid (CP.out A1 c1 w1 o1)
  have B1 := Lib.hid b1
  clear o1 b1
  go_wp2_with fail
  refine CP1.out.mono ?_; rintro r w2 ⟨x, rfl, hx, hA, b2⟩
  have B2 := Lib.hid (B1.out.trans (below_of_le b2 B1.out.size))
  obtain ⟨kind, frm', dst, marks, Am, cm, es, Ae, ce⟩ := x
  unfold mlM at hx
  simp only [Md.mk.injEq] at hx
  obtain ⟨rfl, rfl, rfl, rfl, hx⟩ := hx
  have B3 := Lib.hid (show Below w.heap.size w (w2.alloc (.cells #[.int .i64 3, .int .i64 0, .int .i64 1, .slice Am 0 cm, .slice Ae es.length ce] 30)) from B2.out.alloc B2.out.size _)
  unfold mlC
  simp only [List.length_nil]
  clear b2 hA hx
  go_wp2
  go_ret
  exact ⟨rfl, B3.out⟩
end Go.Proofs.YtpakmeegldgjmaaGreat
/- The openers of api.Event and api.Message, in slices. -/
namespace Go.Proofs.YtpakmeegldgjmaaGreat
open Go.ChangeShapes Go.WideShapes Go.ChangeAt Go.RowKit Go.Deep
set_option linter.unusedVariables false
set_option maxRecDepth 100000

section
variable {H : Type} {enc : TypeId × Value → H} {W : World} {fuel : Nat} {cs : List Value} {x : DataW H × List MemPlace}
theorem bs_self (s : ByteArray) : ∃ l, s = bs l := ⟨s.data.toList, by cases s; simp [bs]⟩
theorem dotT_of_trod (hf : DataW.trod enc Tryz.prog W 0 (fun _ => true) true fuel 50 cs = some x) : ∃ y : Dt, cs = dtC y ∧ dB y := by
  have hC : Tryz.prog.cellsOf 50 = 3 := by kernel_rfl
  have hCA : Tryz.prog.cellsOf 48 = 2 := by kernel_rfl
  have hC1 : Tryz.prog.cellsOf 3 = 1 := by kernel_rfl
  obtain ⟨y0, y1, n, _, hl, h0, h1⟩ := trod_struct2 Tryz.underlying50 hf
  rw [hC] at hl
  obtain ⟨c0, c1, c2, rfl⟩ : ∃ a b c, cs = [a, b, c] := by
    match cs, hl with
    | [a, b, c], _ => exact ⟨a, b, c, rfl⟩
  simp only [hCA, hC1] at h0 h1
  obtain ⟨z0, z1, n', _, hl', g0, g1⟩ := trod_struct2 Tryz.underlying48 h0
  simp only [hC1] at g0 g1
  obtain ⟨a, e0, _, w0⟩ := DataW.trod_int Tryz.underlying3 g0
  obtain ⟨b, e1, _, w1⟩ := DataW.trod_int Tryz.underlying3 g1
  obtain ⟨c, e2, _, w2⟩ := DataW.trod_int Tryz.underlying3 h1
  simp at e0 e1 e2
  subst e0 e1 e2
  exact ⟨((a, b), c), rfl, bounds_i64 w0, bounds_i64 w1, bounds_i64 w2⟩
theorem dots_of_trod (hf : DataW.trod enc Tryz.prog W 0 (fun _ => true) true fuel 57 cs = some x) : ∃ A c L, cs = [.slice A L.length c] ∧ L.length ≤ c ∧ c ≤ maxLen ∧ Ds W W.heap.size A L ∧ ∀ y ∈ L, dB y :=
  elems_of_trod dtC dB ((0, 0), 0) Tryz.underlying57 (by kernel_rfl) (by omega) dtC_len (fun fuel cs x hx => dotT_of_trod hx) hf
theorem stampT_of_trod (hf : DataW.trod enc Tryz.prog W 0 (fun _ => true) true fuel 52 cs = some x) : ∃ a b c : Int, cs = [.int .i64 a, .int .i64 b, .int .i64 c] ∧ i64B a ∧ i64B b ∧ i64B c := by
  have hC : Tryz.prog.cellsOf 52 = 3 := by kernel_rfl
  have hC1 : Tryz.prog.cellsOf 3 = 1 := by kernel_rfl
  obtain ⟨y0, y1, y2, n, _, hl, h0, h1, h2⟩ := trod_struct3 Tryz.underlying52 hf
  rw [hC] at hl
  obtain ⟨c0, c1, c2, rfl⟩ : ∃ a b c, cs = [a, b, c] := by
    match cs, hl with
    | [a, b, c], _ => exact ⟨a, b, c, rfl⟩
  simp only [hC1] at h0 h1 h2
  obtain ⟨a, e0, _, w0⟩ := DataW.trod_int Tryz.underlying3 h0
  obtain ⟨b, e1, _, w1⟩ := DataW.trod_int Tryz.underlying3 h1
  obtain ⟨c, e2, _, w2⟩ := DataW.trod_int Tryz.underlying3 h2
  simp at e0 e1 e2
  subst e0 e1 e2
  exact ⟨a, b, c, rfl, bounds_i64 w0, bounds_i64 w1, bounds_i64 w2⟩
theorem key_of_trod (hf : DataW.trod enc Tryz.prog W 0 (fun _ => true) true fuel 54 cs = some x) : ∃ a b c : List UInt8, cs = [.string (bs a), .string (bs b), .string (bs c)] := by
  have hC : Tryz.prog.cellsOf 54 = 3 := by kernel_rfl
  have hC1 : Tryz.prog.cellsOf 9 = 1 := by kernel_rfl
  obtain ⟨y0, y1, y2, n, _, hl, h0, h1, h2⟩ := trod_struct3 Tryz.underlying54 hf
  rw [hC] at hl
  obtain ⟨c0, c1, c2, rfl⟩ : ∃ a b c, cs = [a, b, c] := by
    match cs, hl with
    | [a, b, c], _ => exact ⟨a, b, c, rfl⟩
  simp only [hC1] at h0 h1 h2
  obtain ⟨a, e0, _, w0⟩ := DataW.trod_string Tryz.underlying9 h0
  obtain ⟨b, e1, _, w1⟩ := DataW.trod_string Tryz.underlying9 h1
  obtain ⟨c, e2, _, w2⟩ := DataW.trod_string Tryz.underlying9 h2
  simp at e0 e1 e2
  subst e0 e1 e2
  obtain ⟨a, rfl⟩ := bs_self a
  obtain ⟨b, rfl⟩ := bs_self b
  obtain ⟨c, rfl⟩ := bs_self c
  exact ⟨a, b, c, rfl⟩
theorem cookie_of_trod (hf : DataW.trod enc Tryz.prog W 0 (fun _ => true) true fuel 56 cs = some x) : ∃ (v : List UInt8) (a b c d : Bool) (i j k : Int), cs = [.string (bs v), .bool a, .bool b, .bool c, .bool d, .int .i64 i, .int .i64 j, .int .i64 k] ∧ i64B i ∧ i64B j ∧ i64B k := by
  have hC : Tryz.prog.cellsOf 56 = 8 := by kernel_rfl
  have hC1 : Tryz.prog.cellsOf 3 = 1 := by kernel_rfl
  have hC2 : Tryz.prog.cellsOf 4 = 1 := by kernel_rfl
  have hC3 : Tryz.prog.cellsOf 9 = 1 := by kernel_rfl
  obtain ⟨xs, n, _, _, hl, hlen, hg⟩ := DataW.trod_struct Tryz.underlying56 hf
  rw [hC] at hl
  obtain ⟨c0, c1, c2, c3, c4, c5, c6, c7, rfl⟩ : ∃ a b c d e f g h, cs = [a, b, c, d, e, f, g, h] := by
    match cs, hl with
    | [a, b, c, d, e, f, g, h], _ => exact ⟨a, b, c, d, e, f, g, h, rfl⟩
  match xs, hlen with
  | [y0, y1, y2, y3, y4, y5, y6, y7], _ =>
    have h0 : DataW.trod enc Tryz.prog W 0 (fun _ => true) true n 9 (([c0, c1, c2, c3, c4, c5, c6, c7].drop 0).take (Tryz.prog.cellsOf 9)) = some y0 := hg 0 _ rfl
    have h1 : DataW.trod enc Tryz.prog W 0 (fun _ => true) true n 4 (([c0, c1, c2, c3, c4, c5, c6, c7].drop 1).take (Tryz.prog.cellsOf 4)) = some y1 := hg 1 _ rfl
    have h2 : DataW.trod enc Tryz.prog W 0 (fun _ => true) true n 4 (([c0, c1, c2, c3, c4, c5, c6, c7].drop 2).take (Tryz.prog.cellsOf 4)) = some y2 := hg 2 _ rfl
    have h3 : DataW.trod enc Tryz.prog W 0 (fun _ => true) true n 4 (([c0, c1, c2, c3, c4, c5, c6, c7].drop 3).take (Tryz.prog.cellsOf 4)) = some y3 := hg 3 _ rfl
    have h4 : DataW.trod enc Tryz.prog W 0 (fun _ => true) true n 4 (([c0, c1, c2, c3, c4, c5, c6, c7].drop 4).take (Tryz.prog.cellsOf 4)) = some y4 := hg 4 _ rfl
    have h5 : DataW.trod enc Tryz.prog W 0 (fun _ => true) true n 3 (([c0, c1, c2, c3, c4, c5, c6, c7].drop 5).take (Tryz.prog.cellsOf 3)) = some y5 := hg 5 _ rfl
    have h6 : DataW.trod enc Tryz.prog W 0 (fun _ => true) true n 3 (([c0, c1, c2, c3, c4, c5, c6, c7].drop 6).take (Tryz.prog.cellsOf 3)) = some y6 := hg 6 _ rfl
    have h7 : DataW.trod enc Tryz.prog W 0 (fun _ => true) true n 3 (([c0, c1, c2, c3, c4, c5, c6, c7].drop 7).take (Tryz.prog.cellsOf 3)) = some y7 := hg 7 _ rfl
    rw [hC1] at h5 h6 h7
    rw [hC2] at h1 h2 h3 h4
    rw [hC3] at h0
    obtain ⟨v, e0, _, _⟩ := DataW.trod_string Tryz.underlying9 h0
    obtain ⟨a, e1, _⟩ := DataW.trod_bool Tryz.underlying4 h1
    obtain ⟨b, e2, _⟩ := DataW.trod_bool Tryz.underlying4 h2
    obtain ⟨c, e3, _⟩ := DataW.trod_bool Tryz.underlying4 h3
    obtain ⟨d, e4, _⟩ := DataW.trod_bool Tryz.underlying4 h4
    obtain ⟨i, e5, _, w5⟩ := DataW.trod_int Tryz.underlying3 h5
    obtain ⟨j, e6, _, w6⟩ := DataW.trod_int Tryz.underlying3 h6
    obtain ⟨k, e7, _, w7⟩ := DataW.trod_int Tryz.underlying3 h7
    simp at e0 e1 e2 e3 e4 e5 e6 e7
    subst e0 e1 e2 e3 e4 e5 e6 e7
    obtain ⟨v, rfl⟩ := bs_self v
    exact ⟨v, a, b, c, d, i, j, k, rfl, bounds_i64 w5, bounds_i64 w6, bounds_i64 w7⟩
/-- An event that came in. -/
structure ElOk (W : World) (y : El) : Prop where
  dot : dB y.e.dot
  ds : Ds W W.heap.size y.A y.e.over
  over : ∀ d ∈ y.e.over, dB d
  len : y.e.over.length ≤ y.c
  cap : y.c ≤ maxLen
theorem event_of_trod (hf : DataW.trod enc Tryz.prog W 0 (fun _ => true) true fuel 59 cs = some x) : ∃ y : El, cs = elC y ∧ ElOk W y := by
  have hC : Tryz.prog.cellsOf 59 = 19 := by kernel_rfl
  have hC0 : Tryz.prog.cellsOf 50 = 3 := by kernel_rfl
  have hC1 : Tryz.prog.cellsOf 52 = 3 := by kernel_rfl
  have hC2 : Tryz.prog.cellsOf 3 = 1 := by kernel_rfl
  have hC3 : Tryz.prog.cellsOf 54 = 3 := by kernel_rfl
  have hC4 : Tryz.prog.cellsOf 56 = 8 := by kernel_rfl
  have hC5 : Tryz.prog.cellsOf 57 = 1 := by kernel_rfl
  obtain ⟨xs, n, _, _, hl, hlen, hg⟩ := DataW.trod_struct Tryz.underlying59 hf
  rw [hC] at hl
  match xs, hlen with
  | [y0, y1, y2, y3, y4, y5], _ =>
    have h0 : DataW.trod enc Tryz.prog W 0 (fun _ => true) true n 50 ((cs.drop 0).take (Tryz.prog.cellsOf 50)) = some y0 := hg 0 _ rfl
    have h1 : DataW.trod enc Tryz.prog W 0 (fun _ => true) true n 52 ((cs.drop 3).take (Tryz.prog.cellsOf 52)) = some y1 := hg 1 _ rfl
    have h2 : DataW.trod enc Tryz.prog W 0 (fun _ => true) true n 3 ((cs.drop 6).take (Tryz.prog.cellsOf 3)) = some y2 := hg 2 _ rfl
    have h3 : DataW.trod enc Tryz.prog W 0 (fun _ => true) true n 54 ((cs.drop 7).take (Tryz.prog.cellsOf 54)) = some y3 := hg 3 _ rfl
    have h4 : DataW.trod enc Tryz.prog W 0 (fun _ => true) true n 56 ((cs.drop 10).take (Tryz.prog.cellsOf 56)) = some y4 := hg 4 _ rfl
    have h5 : DataW.trod enc Tryz.prog W 0 (fun _ => true) true n 57 ((cs.drop 18).take (Tryz.prog.cellsOf 57)) = some y5 := hg 5 _ rfl
    rw [hC0] at h0
    rw [hC1] at h1
    rw [hC2] at h2
    rw [hC3] at h3
    rw [hC4] at h4
    rw [hC5] at h5
    obtain ⟨d, e0, w0⟩ := dotT_of_trod h0
    obtain ⟨s1, s2, s3, e1, _, _, _⟩ := stampT_of_trod h1
    obtain ⟨k, e2, _, _⟩ := DataW.trod_int Tryz.underlying3 h2
    obtain ⟨nm, dm, pt, e3⟩ := key_of_trod h3
    obtain ⟨v, a, b, c, f, i, j, l, e4, _, _, _⟩ := cookie_of_trod h4
    obtain ⟨A, cc, L, e5, w1, w2, w3, w4⟩ := dots_of_trod h5
    refine ⟨⟨⟨d, (s1, s2, s3), k, nm, dm, pt, v, a, b, c, f, i, j, l, L⟩, A, cc⟩, ?_, ⟨w0, w3, w4, w1, w2⟩⟩
    have hcs : cs = (cs.drop 0).take 3 ++ ((cs.drop 3).take 3 ++ ((cs.drop 6).take 1 ++ ((cs.drop 7).take 3 ++ ((cs.drop 10).take 8 ++ (cs.drop 18).take 1)))) := by
      match cs, hl with
      | [_, _, _, _, _, _, _, _, _, _, _, _, _, _, _, _, _, _, _], _ => rfl
    rw [hcs, e0, e1, e2, e3, e4, e5]
    rfl
theorem events_of_trod (hf : DataW.trod enc Tryz.prog W 0 (fun _ => true) true fuel 28 cs = some x) : ∃ A c Es, cs = [.slice A Es.length c] ∧ Es.length ≤ c ∧ c ≤ maxLen ∧ EsAt W W.heap.size A Es ∧ ∀ y ∈ Es, ElOk W y := by
  obtain ⟨A, c, L, h1, h2, h3, h4, h5⟩ := elems_of_trod elC (ElOk W) ⟨⟨((0, 0), 0), (0, 0, 0), 0, [], [], [], [], false, false, false, false, 0, 0, 0, []⟩, none, 0⟩ Tryz.underlying28 (by kernel_rfl) (by omega) elC_len (fun fuel cs x hx => event_of_trod hx) hf
  exact ⟨A, c, L, h1, h2, h3, ⟨h4, fun y hy => (h5 y hy).ds⟩, h5⟩
def mlL (y : Ml) : List Value := (mlC y).toList
end
/-- A slice of messages. -/
structure MsgsAt (w : World) (B : Nat) (A : Option Addr) (Ms : List Ml) : Prop where
  rd : Rd w B 5 A Ms.length (Ms.flatMap mlL)
  at_ : ∀ y ∈ Ms, MlAt w B y
theorem MsgsAt.below {w w' : World} {B : Nat} {A : Option Addr} {Ms : List Ml} (h : MsgsAt w B A Ms) (b : Below B w w') : MsgsAt w' B A Ms := ⟨h.rd.below b, fun y hy => (h.at_ y hy).below b⟩
theorem MsgsAt.more {w : World} {B B' : Nat} {A : Option Addr} {Ms : List Ml} (h : MsgsAt w B A Ms) (b : B ≤ B') : MsgsAt w B' A Ms := ⟨h.rd.more b, fun y hy => (h.at_ y hy).more b⟩
theorem MsgsAt.up {w w' : World} {A : Option Addr} {Ms : List Ml} (h : MsgsAt w w.heap.size A Ms) (b : Below w.heap.size w w') : MsgsAt w' w'.heap.size A Ms := (h.below b).more b.size
def IsEvs (w : World) (v : Value) : Prop := ∃ A c Es, v = .slice A (Es : List El).length c ∧ Es.length ≤ c ∧ c ≤ maxLen ∧ EsAt w w.heap.size A Es ∧ ∀ y ∈ Es, ElOk w y
theorem open_evs {H : Type} {enc : TypeId × Value → H} {W : World} {base : Nat} {v : Value} {d : DataW H} {p : List MemPlace} (hv : Value.okWide Tryz.prog W .any base 28 v)
    (h : DataW.Trod enc Tryz.prog W 0 (fun _ => true) true 28 v d p) : IsEvs W v := by
  obtain ⟨A, n, c, rfl⟩ := okWide_slice Tryz.underlying28 hv
  obtain ⟨fuel, hf⟩ := h
  obtain ⟨A', c', L, e, h1, h2, h3, h4⟩ := events_of_trod hf
  simp [Value.cells] at e
  obtain ⟨rfl, rfl, rfl⟩ := e
  exact ⟨_, _, L, rfl, h1, h2, h3, h4⟩
end Go.Proofs.YtpakmeegldgjmaaGreat
/- TopWire: appends of messages, of whole numbers; what is told while messages are gone over; plain laws. -/
namespace Go.Proofs.YtpakmeegldgjmaaGreat
open Go.RowKit
set_option linter.unusedVariables false
set_option linter.unusedSimpArgs false
set_option maxRecDepth 100000
attribute [local go_sem ↓] Go.wp_at_zero Go.wp_at_succ

theorem own_one (w : World) (e : TypeId) (base : Nat) (v : Value) (h : base ≤ w.heap.size) : Own (w.alloc (.cells #[v] e)) base e 1 (some ⟨w.heap.size, 0, none⟩) 1 1 [v] :=
  ⟨⟨rfl, .inr ⟨w.heap.size, 1, #[v], rfl, h, heap_alloc_new w _, Nat.le_refl _, by simp [maxLen], rfl, rfl⟩⟩, Nat.le_refl _, by simp [maxLen]⟩
/-- A message's body. -/
def mP (y : Ml) : List UInt8 := msP (mlM y)
/-- The ends of all frames. -/
def endsV (R : List (List UInt8)) : List Value := (List.range (R.length + 1)).map fun i => .int .i64 ((fcat (R.take i)).length : Int)
theorem endsV_snoc (R : List (List UInt8)) (l : List UInt8) : endsV (R ++ [l]) = endsV R ++ [.int .i64 ((fcat (R ++ [l])).length : Int)] := by
  unfold endsV
  rw [List.length_append, show R.length + [l].length + 1 = (R.length + 1) + 1 from rfl, List.range_succ, List.map_append]
  congr 1
  · refine List.map_congr_left fun i hi => ?_
    rw [List.take_append_of_le_length (by have := List.mem_range.1 hi; omega)]
  · simp [List.take_of_length_le]
/-- What is told while messages are gone over: their bytes, those that may be, the ends. -/
structure TW (w : World) (N : Nat) (W : World) (Aa : Option Addr) (ca : Nat) (Ar : Option Addr) (cr : Nat) (Ae : Option Addr) (ce : Nat) (R : List Ml) : Prop where
  al : Own W N 5 1 Aa (fcat (R.map mP)).length ca (bv (fcat (R.map mP)))
  ri : Own W N 30 5 Ar R.length cr (R.flatMap mlL)
  en : Own W N 3 1 Ae (R.length + 1) ce (endsV (R.map mP))
  bel : Below N w W
  sz : N ≤ W.heap.size
section
variable {w W W' : World} {N ca cr ce : Nat} {Aa Ar Ae : Option Addr} {R : List Ml}
theorem TW.below (h : TW w N W Aa ca Ar cr Ae ce R) (b : Below W.heap.size W W') : TW w N W' Aa ca Ar cr Ae ce R :=
  ⟨h.al.below b (Nat.le_refl _), h.ri.below b (Nat.le_refl _), h.en.below b (Nat.le_refl _), h.bel.trans (below_of_le b h.sz), Nat.le_trans h.sz b.size⟩
theorem TW.start (w : World) : TW w w.heap.size (((w.alloc (.cells #[] 5)).alloc (.cells #[] 30)).alloc (.cells #[.int .i64 0] 3)) (some ⟨w.heap.size, 0, none⟩) 0 (some ⟨w.heap.size + 1, 0, none⟩) 0 (some ⟨w.heap.size + 1 + 1, 0, none⟩) 1 [] := by
  have h1 := own_es w 5 1 w.heap.size (Nat.le_refl _)
  have h2 := own_es (w.alloc (.cells #[] 5)) 30 5 w.heap.size (by simp)
  have h3 := own_one ((w.alloc (.cells #[] 5)).alloc (.cells #[] 30)) 3 w.heap.size (.int .i64 0) (by simp; omega)
  have e2 : (w.alloc (.cells #[] 5)).heap.size = w.heap.size + 1 := by simp
  have e3 : ((w.alloc (.cells #[] 5)).alloc (.cells #[] 30)).heap.size = w.heap.size + 1 + 1 := by simp
  rw [e2] at h2
  rw [e3] at h3
  exact ⟨(h1.alloc _).alloc _, h2.alloc _, h3, (((Below.refl _ w).alloc (Nat.le_refl _) _).alloc (by simp) _).alloc (by simp; omega) _, by simp; omega⟩
/-- A message more. -/
theorem TW.step {x : Ml} {w1 w2 w3 : World} {A1 A2 A3 : Option Addr} {c1 c2 c3 : Nat} (h : TW w N W Aa ca Ar cr Ae ce R)
    (o1 : Own w1 N 5 1 A1 (fcat (R.map mP) ++ Go.Proofs.YtpakmeegldgjmaaGreat.frm (mP x)).length c1 (bv (fcat (R.map mP) ++ Go.Proofs.YtpakmeegldgjmaaGreat.frm (mP x)))) (k1 : Ch (fun k => some k = bl Aa) W w1) (b1 : Below N W w1)
    (o2 : Own w2 N 30 5 A2 (R.length + 1) c2 (R.flatMap mlL ++ mlL x)) (k2 : Ch (fun k => some k = bl Ar) w1 w2) (b2 : Below N w1 w2)
    (o3 : Own w3 N 3 1 A3 (R.length + 1 + 1) c3 (endsV (R.map mP) ++ [.int .i64 ((fcat (R.map mP) ++ Go.Proofs.YtpakmeegldgjmaaGreat.frm (mP x)).length : Int)])) (k3 : Ch (fun k => some k = bl Ae) w2 w3) (b3 : Below N w2 w3) :
    TW w N w3 A1 c1 A2 c2 A3 c3 (R ++ [x]) := by
  have e : fcat ((R ++ [x]).map mP) = fcat (R.map mP) ++ Go.Proofs.YtpakmeegldgjmaaGreat.frm (mP x) := by simp [fcat]
  have hri1 : Own w1 N 30 5 Ar R.length cr (R.flatMap mlL) := h.ri.ch k1 (fun j _ _ hj e => h.ri.apart h.al (by decide) j hj e.symm)
  have hen1 : Own w1 N 3 1 Ae (R.length + 1) ce (endsV (R.map mP)) := h.en.ch k1 (fun j _ _ hj e => h.en.apart h.al (by decide) j hj e.symm)
  have hal2 := o1.ch k2 (fun j _ _ hj e => o1.apart hri1 (by decide) j hj e.symm)
  have hen2 := hen1.ch k2 (fun j _ _ hj e => hen1.apart hri1 (by decide) j hj e.symm)
  have hal3 := hal2.ch k3 (fun j _ _ hj e => hal2.apart hen2 (by decide) j hj e.symm)
  have hri3 := o2.ch k3 (fun j _ _ hj e => o2.apart hen2 (by decide) j hj e.symm)
  refine ⟨by rw [e]; exact hal3, ?_, ?_, ((h.bel.trans b1).trans b2).trans b3, Nat.le_trans h.sz (Nat.le_trans k1.size (Nat.le_trans k2.size k3.size))⟩
  · rw [List.length_append, List.flatMap_append]
    simpa using hri3
  · rw [List.map_append, List.map_cons, List.map_nil, endsV_snoc, List.length_append]
    have e' : fcat (R.map mP ++ [mP x]) = fcat (R.map mP) ++ Go.Proofs.YtpakmeegldgjmaaGreat.frm (mP x) := by simp [fcat]
    rw [e']
    exact o3
end
end Go.Proofs.YtpakmeegldgjmaaGreat
/- Layer 21 (ormap): a map of events in memory; what changes of one block leave. -/
namespace Go.Proofs.YtpakmeegldgjmaaGreat
open Go.RowKit
set_option linter.unusedVariables false
set_option maxRecDepth 100000

/-- Block g is a map. -/
def MapB (w : World) (g : Nat) : Prop := ∃ es clock, w.heap[g]? = some (.map es clock)
theorem MapB.noCell {w : World} {g o : Nat} {v : Value} (h : MapB w g) (hc : w.cell? ⟨g, o, none⟩ = some v) : False := by
  obtain ⟨es, clock, hb⟩ := h
  simp [World.cell?, hb] at hc
theorem MapB.neWhole {w : World} {g s : Nat} {t : TypeId} {cs : Array Value} (h : MapB w g) (k : Whole w s t cs) : s ≠ g := by
  rintro rfl
  obtain ⟨es, clock, hb⟩ := h
  unfold Whole at k
  rw [k] at hb
  cases hb
theorem MapIs.mapB {P : Program} {α : Type} {k e : TypeId} {kV : α → Value} {ok : α → Prop} {w : World} {b : Nat} {W : List (α × Int)} (h : MapIs P k e kV ok w b W) : MapB w b := by
  obtain ⟨es, clock, hb, _⟩ := h.1
  exact ⟨es, clock, hb⟩
theorem MapV.mapB {P : Program} {α : Type} {k : TypeId} {kV : α → Value} {ok : α → Prop} {w : World} {b : Nat} {W : List (α × Value)} (h : MapV P k kV ok w b W) : MapB w b := by
  obtain ⟨es, clock, hb, _⟩ := h.1
  exact ⟨es, clock, hb⟩
theorem Rd.chM {w w' : World} {B size n g : Nat} {A : Option Addr} {xs : List Value} (r : Rd w B size A n xs) (hB : B ≤ w.heap.size) (hs : 0 < size) (hg : MapB w g) (h : Ch (fun k => k = g) w w') : Rd w' B size A n xs := by
  by_cases hn : n = 0
  · subst hn
    exact ⟨r.1, fun h0 => absurd h0 (by simp)⟩
  · refine r.ch hB h (fun k hk hb e => ?_)
    subst e
    obtain ⟨b, o, e0, hlt, hc⟩ := r.2 (Nat.mul_pos (by omega) hs)
    rw [e0] at hb
    have : b = k := by simpa [bl] using hb
    subst this
    have h0 : 0 < xs.length := by rw [r.1]; exact Nat.mul_pos (by omega) hs
    exact hg.noCell (hc 0 xs[0] (List.getElem?_eq_getElem h0))
/-- The kept events as a map's pairs; the alive ones' sets. -/
def keptV (K : List El) : List (Dt × Value) := K.map fun x => (x.e.dot, .agg (evA x.e x.A x.c))
def aliveV (AL : List (Ky × Nat × List Dt)) : List (Ky × Value) := AL.map fun p => (p.1, .map (some p.2.1))
/-- The blocks of a map of events that change. -/
def omBs (kb ab db sb : Nat) (AL : List (Ky × Nat × List Dt)) : List Nat := kb :: ab :: db :: sb :: AL.map (fun p => p.2.1)
/-- A map of events in memory. -/
structure Om (w : World) (N m kb ab db sv sb : Nat) (K : List El) (AL : List (Ky × Nat × List Dt)) (D M : List Dt) : Prop where
  blk : Whole w m 95 #[.map (some kb), .map (some ab), .map (some db), .pointer (some ⟨sv, 0, none⟩)]
  kept : MapV Tryz.prog 50 dtV dtOk w kb (keptV K)
  alive : MapV Tryz.prog 54 kyV kyOk w ab (aliveV AL)
  inner : ∀ p ∈ AL, MapIs Tryz.prog 50 3 dtV dtOk w p.2.1 (ones p.2.2)
  dead : MapIs Tryz.prog 50 3 dtV dtOk w db (ones D)
  seen : VecIs w sv sb M
  ov : ∀ x ∈ K, MsAt w x.A x.e.over
  nd : (omBs kb ab db sb AL).Nodup
  lo : ∀ g ∈ omBs kb ab db sb AL, N ≤ g
section
variable {w w' : World} {N m kb ab db sv sb : Nat} {K : List El} {AL : List (Ky × Nat × List Dt)} {D M : List Dt}
theorem Om.mapB (h : Om w N m kb ab db sv sb K AL D M) : ∀ g ∈ omBs kb ab db sb AL, MapB w g := by
  intro g hg
  unfold omBs at hg
  simp only [List.mem_cons, List.mem_map] at hg
  rcases hg with rfl | rfl | rfl | rfl | ⟨p, hp, rfl⟩
  · exact h.kept.mapB
  · exact h.alive.mapB
  · exact h.dead.mapB
  · exact h.seen.2.1.mapB
  · exact (h.inner p hp).mapB
theorem MapB.lt {w : World} {g : Nat} (h : MapB w g) : g < w.heap.size := by
  obtain ⟨es, clock, hb⟩ := h
  exact (Array.getElem?_eq_some_iff.1 hb).1
theorem Om.up (h : Om w N m kb ab db sv sb K AL D M) (hb : Below w.heap.size w w') : Om w' N m kb ab db sv sb K AL D M :=
  ⟨h.blk.below hb h.blk.lt, h.kept.below hb h.kept.lt, h.alive.below hb h.alive.lt, fun p hp => (h.inner p hp).below hb (h.inner p hp).lt, h.dead.below hb h.dead.lt, h.seen.up hb, fun x hx => (h.ov x hx).up hb, h.nd, h.lo⟩
theorem Om.mem_kb : kb ∈ omBs kb ab db sb AL := by simp [omBs]
theorem Om.mem_ab : ab ∈ omBs kb ab db sb AL := by simp [omBs]
theorem Om.mem_db : db ∈ omBs kb ab db sb AL := by simp [omBs]
theorem Om.mem_sb : sb ∈ omBs kb ab db sb AL := by simp [omBs]
theorem Om.mem_in {p : Ky × Nat × List Dt} (hp : p ∈ AL) : p.2.1 ∈ omBs kb ab db sb AL := by
  simp only [omBs, List.mem_cons, List.mem_map]
  exact .inr (.inr (.inr (.inr ⟨p, hp, rfl⟩)))
/-- What a change of one of the blocks leaves. -/
theorem Om.ovs (h : Om w N m kb ab db sv sb K AL D M) {g : Nat} (hg : g ∈ omBs kb ab db sb AL) (hc : Ch (fun k => k = g) w w') : ∀ x ∈ K, MsAt w' x.A x.e.over := fun x hx =>
  Ds.more (Rd.chM (h.ov x hx) (Nat.le_refl _) (by omega) (h.mapB g hg) hc) hc.size
theorem Om.blk_ (h : Om w N m kb ab db sv sb K AL D M) {g : Nat} (hg : g ∈ omBs kb ab db sb AL) (hc : Ch (fun k => k = g) w w') : Whole w' m 95 #[.map (some kb), .map (some ab), .map (some db), .pointer (some ⟨sv, 0, none⟩)] :=
  h.blk.ch hc (fun e => (h.mapB g hg).neWhole h.blk e)
theorem Om.vec_ (h : Om w N m kb ab db sv sb K AL D M) {g : Nat} (hg : g ∈ omBs kb ab db sb AL) (hne : g ≠ sb) (hc : Ch (fun k => k = g) w w') : VecIs w' sv sb M :=
  h.seen.ch hc (fun e => (h.mapB g hg).neWhole h.seen.1 e) (fun e => hne e.symm)
theorem Om.nes (h : Om w N m kb ab db sv sb K AL D M) : kb ≠ ab ∧ kb ≠ db ∧ kb ≠ sb ∧ ab ≠ db ∧ ab ≠ sb ∧ db ≠ sb ∧ ∀ p ∈ AL, p.2.1 ≠ kb ∧ p.2.1 ≠ ab ∧ p.2.1 ≠ db ∧ p.2.1 ≠ sb := by
  have := h.nd
  unfold omBs at this
  simp only [List.nodup_cons, List.mem_cons, List.mem_map, not_or, not_exists, not_and] at this
  obtain ⟨⟨a1, a2, a3, a4⟩, ⟨b1, b2, b3⟩, ⟨c1, c2⟩, d1, _⟩ := this
  exact ⟨a1, a2, a3, b1, b2, c1, fun p hp => ⟨a4 p hp, b3 p hp, c2 p hp, d1 p hp⟩⟩
/-- The dead dots changed. -/
theorem Om.setDead (h : Om w N m kb ab db sv sb K AL D M) {D' : List Dt} (hc : Ch (fun k => k = db) w w') (hm : MapIs Tryz.prog 50 3 dtV dtOk w' db (ones D')) : Om w' N m kb ab db sv sb K AL D' M := by
  obtain ⟨e1, e2, e3, e4, e5, e6, e7⟩ := h.nes
  exact ⟨h.blk_ Om.mem_db hc, h.kept.ch hc e2, h.alive.ch hc e4, fun p hp => (h.inner p hp).ch hc (e7 p hp).2.2.1, hm, h.vec_ Om.mem_db e6 hc, h.ovs Om.mem_db hc, h.nd, h.lo⟩
/-- The vector changed. -/
theorem Om.setSeen (h : Om w N m kb ab db sv sb K AL D M) {M' : List Dt} (hc : Ch (fun k => k = sb) w w') (hm : VecIs w' sv sb M') : Om w' N m kb ab db sv sb K AL D M' := by
  obtain ⟨e1, e2, e3, e4, e5, e6, e7⟩ := h.nes
  exact ⟨h.blk_ Om.mem_sb hc, h.kept.ch hc e3, h.alive.ch hc e5, fun p hp => (h.inner p hp).ch hc (e7 p hp).2.2.2, h.dead.ch hc e6, hm, h.ovs Om.mem_sb hc, h.nd, h.lo⟩
/-- The kept events changed: one more. -/
theorem Om.setKept (h : Om w N m kb ab db sv sb K AL D M) {x : El} (hc : Ch (fun k => k = kb) w w') (hm : MapV Tryz.prog 50 dtV dtOk w' kb (keptV (K ++ [x]))) (hx : MsAt w' x.A x.e.over) : Om w' N m kb ab db sv sb (K ++ [x]) AL D M := by
  obtain ⟨e1, e2, e3, e4, e5, e6, e7⟩ := h.nes
  refine ⟨h.blk_ Om.mem_kb hc, hm, h.alive.ch hc (fun e => e1 e.symm), fun p hp => (h.inner p hp).ch hc (e7 p hp).1, h.dead.ch hc (fun e => e2 e.symm), h.vec_ Om.mem_kb e3 hc, fun y hy => ?_, h.nd, h.lo⟩
  rcases List.mem_append.1 hy with hy | hy
  · exact h.ovs Om.mem_kb hc y hy
  · simp at hy
    subst hy
    exact hx
/-- A key's set changed. -/
theorem Om.setInner (h : Om w N m kb ab db sv sb K AL D M) {A1 A2 : List (Ky × Nat × List Dt)} {p : Ky × Nat × List Dt} {L : List Dt} (hA : AL = A1 ++ p :: A2) (hc : Ch (fun k => k = p.2.1) w w') (hm : MapIs Tryz.prog 50 3 dtV dtOk w' p.2.1 (ones L)) :
    Om w' N m kb ab db sv sb K (A1 ++ (p.1, p.2.1, L) :: A2) D M := by
  obtain ⟨e1, e2, e3, e4, e5, e6, e7⟩ := h.nes
  have hp : p ∈ AL := by rw [hA]; simp
  have hbs : omBs kb ab db sb (A1 ++ (p.1, p.2.1, L) :: A2) = omBs kb ab db sb AL := by rw [hA]; simp [omBs]
  have hin : (AL.map fun q => q.2.1).Nodup := by
    have := h.nd
    unfold omBs at this
    simp only [List.nodup_cons] at this
    exact this.2.2.2.2
  have hne : ∀ q ∈ A1 ++ A2, q.2.1 ≠ p.2.1 := by
    intro q hq e
    rw [hA, List.map_append, List.map_cons, List.nodup_append] at hin
    obtain ⟨_, h2, h3⟩ := hin
    rw [List.nodup_cons] at h2
    rcases List.mem_append.1 hq with hq | hq
    · exact h3 _ (List.mem_map.2 ⟨q, hq, rfl⟩) _ (List.mem_cons_self ..) e
    · exact h2.1 (by rw [← e]; exact List.mem_map.2 ⟨q, hq, rfl⟩)
  obtain ⟨f1, f2, f3, f4⟩ := e7 p hp
  have hg := Om.mem_in (kb := kb) (ab := ab) (db := db) (sb := sb) hp
  refine ⟨h.blk_ hg hc, h.kept.ch hc (fun e => f1 e.symm), ?_, fun q hq => ?_, h.dead.ch hc (fun e => f3 e.symm), h.vec_ hg f4 hc, h.ovs hg hc, by rw [hbs]; exact h.nd, by rw [hbs]; exact h.lo⟩
  · have := h.alive.ch hc (fun e => f2 e.symm)
    rw [hA] at this
    simpa [aliveV] using this
  · rcases List.mem_append.1 hq with hq | hq
    · exact (h.inner q (by rw [hA]; exact List.mem_append_left _ hq)).ch hc (hne q (List.mem_append_left _ hq))
    · rcases List.mem_cons.1 hq with rfl | hq
      · exact hm
      · exact (h.inner q (by rw [hA]; exact List.mem_append_right _ (List.mem_cons_of_mem _ hq))).ch hc (hne q (List.mem_append_right _ hq))
/-- The sets by keys changed: other pairs, of whose sets each was there. -/
theorem Om.setAlive (h : Om w N m kb ab db sv sb K AL D M) {AL' : List (Ky × Nat × List Dt)} (hc : Ch (fun k => k = ab) w w') (hm : MapV Tryz.prog 54 kyV kyOk w' ab (aliveV AL')) (hin : ∀ p ∈ AL', MapIs Tryz.prog 50 3 dtV dtOk w p.2.1 (ones p.2.2)) (hnd : (omBs kb ab db sb AL').Nodup) (hlo : ∀ g ∈ omBs kb ab db sb AL', N ≤ g) :
    Om w' N m kb ab db sv sb K AL' D M := by
  obtain ⟨e1, e2, e3, e4, e5, e6, e7⟩ := h.nes
  have hne : ∀ p ∈ AL', p.2.1 ≠ ab := by
    intro p hp e
    unfold omBs at hnd
    simp only [List.nodup_cons, List.mem_cons, List.mem_map, not_or, not_exists, not_and] at hnd
    exact hnd.2.1.2.2 p hp e
  exact ⟨h.blk_ Om.mem_ab hc, h.kept.ch hc e1, hm, fun p hp => (hin p hp).ch hc (hne p hp), h.dead.ch hc (fun e => e4 e.symm), h.vec_ Om.mem_ab e5 hc, h.ovs Om.mem_ab hc, hnd, hlo⟩
end
end Go.Proofs.YtpakmeegldgjmaaGreat
