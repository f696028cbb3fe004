/- TopCarried: part 1 of what the proof rests on: contracts of functions, and plain laws. -/
import Derived.WalkKit
import Derived.ProofKit
import Derived.OpenShut
import Derived.Handy
import Derived.Outline
import Derived.Lib.Hide
import Derived.Deep.Draws
import Derived.Laws.OwnMore
import Derived.Laws.AppendOwn
import Derived.Laws.AppendOwnNone
import Derived.Laws.BitsAllLaws
import Derived.Laws.Bits64b
import Derived.Lib.AppendZeros
import Derived.Lib.AppendZerosOnto
import Derived.Laws.CopyRow
import Derived.Lib.AppendStr
import Derived.Test.YtpakmeegldgjmaaGreatRows
import Derived.Lib.Zigzag
import Derived.Deep.QuietTactic
import Derived.BigQuiet
import Derived.Deep.LoopGhost
import Derived.BigRegion
import Derived.RegionTactic
import Derived.Deep.WholeRow
import Derived.Deep.Slices
import Derived.Lib.Varint
import Derived.WalkSpells
import Derived.Laws.BytesString
import Derived.Laws.Concat
import Derived.IntWalk
import Derived.Test.YtpakmeegldgjmaaGreatProg
import Derived.Deep.RegionHeld3
import Derived.StillTailTactics
import Derived.Laws.StructEq
import Derived.Lib.SmallJoins
import Derived.Deep.Strs
import Derived.Laws.IdiomStrings
import Derived.Lib.SlBytesConst
import Derived.Deep.RegionWith
import Derived.Maps.Own
import Derived.Maps.OwnSet
import Derived.Maps.Range
import Derived.DeepKeys4
import Derived.ChangeKeysEq
import Derived.DeepKeys2
/- Merged: W, W2, W3, W4, W5. -/
/- Words of memory that all proofs of this seat share: a slice that reads as a list of cells, a slice of the call's own, bytes as cells. -/
namespace Go.Proofs.YtpakmeegldgjmaaGreat
open Go.RowKit
set_option linter.unusedVariables false
set_option maxRecDepth 100000

/-- Bytes as cells. -/
def bv (l : List UInt8) : List Value := l.map fun c => Value.int .u8 (c.toNat : Int)
theorem bv_length (l : List UInt8) : (bv l).length = l.length := by simp [bv]
theorem bv_get? (l : List UInt8) (j : Nat) : (bv l)[j]? = (l[j]?).map fun c => Value.int .u8 (c.toNat : Int) := by simp [bv]
theorem bv_append (l m : List UInt8) : bv (l ++ m) = bv l ++ bv m := by simp [bv]
theorem bv_take (l : List UInt8) (k : Nat) : bv (l.take k) = (bv l).take k := by simp [bv, List.map_take]
theorem bv_drop (l : List UInt8) (k : Nat) : bv (l.drop k) = (bv l).drop k := by simp [bv, List.map_drop]
theorem bv_oneCell (l : List UInt8) : ∀ u ∈ bv l, u.oneCell' = true := by
  intro u hu
  simp only [bv, List.mem_map] at hu
  obtain ⟨c, _, rfl⟩ := hu
  rfl

/-- The slice (A, n) reads as the cells xs ('size' cells an element) in world w; its block lies below B. -/
def Rd (w : World) (B size : Nat) (A : Option Addr) (n : Nat) (xs : List Value) : Prop :=
  xs.length = n * size ∧ (0 < n * size → ∃ b o, A = some ⟨b, o, none⟩ ∧ b < B ∧ ∀ j u, xs[j]? = some u → w.cell? ⟨b, o + j, none⟩ = some u)

section
variable {w w' : World} {B B' size n : Nat} {A : Option Addr} {xs : List Value}
theorem Rd.len (h : Rd w B 1 A n xs) : xs.length = n := by have := h.1; simpa using this
theorem Rd.nil_ : Rd w B size A 0 [] := ⟨by simp, fun h => absurd h (by simp)⟩
theorem Rd.keep (h : Rd w B size A n xs) (hk : ∀ p : Addr, p.block < B → w'.cell? p = w.cell? p) : Rd w' B size A n xs :=
  ⟨h.1, fun hn => by
    obtain ⟨b, o, e, hb, hc⟩ := h.2 hn
    exact ⟨b, o, e, hb, fun j u hu => (hk _ hb).trans (hc j u hu)⟩⟩
theorem Rd.more (h : Rd w B size A n xs) (hB : B ≤ B') : Rd w B' size A n xs :=
  ⟨h.1, fun hn => by
    obtain ⟨b, o, e, hb, hc⟩ := h.2 hn
    exact ⟨b, o, e, by omega, hc⟩⟩
theorem Rd.below (h : Rd w B size A n xs) (hb : Below B w w') : Rd w' B size A n xs := h.keep fun _ hp => hb.cell hp
theorem Rd.drew (h : Rd w B size A n xs) : Rd w.drew B size A n xs := h
theorem Rd.drewN (h : Rd w B size A n xs) (k : Nat) : Rd (w.drewN k) B size A n xs := h
theorem Rd.alloc (h : Rd w B size A n xs) (hB : B ≤ w.heap.size) (o : Obj) : Rd (w.alloc o) B size A n xs :=
  h.keep fun p hp => World.cell?_alloc_lt w o p (by omega)
theorem Rd.setCell (h : Rd w B size A n xs) {p : Addr} (hB : B ≤ p.block) (u : Value) : Rd (w.setCell p u) B size A n xs :=
  h.keep fun q hq => World.cell?_setCell_other w p q u (fun e => by subst e; omega)
/-- One-cell elements: element k's cell. -/
theorem Rd.at_ {k : Nat} (h : Rd w B 1 A n xs) (hk : k < n) : ∃ b o u, A = some ⟨b, o, none⟩ ∧ b < B ∧ xs[k]? = some u ∧ w.cell? ⟨b, o + k, none⟩ = some u := by
  obtain ⟨b, o, e, hb, hc⟩ := h.2 (by omega)
  have hl : k < xs.length := by have := h.1; omega
  exact ⟨b, o, xs[k], e, hb, List.getElem?_eq_getElem hl, hc k _ (List.getElem?_eq_getElem hl)⟩
/-- The same at bytes, the byte given by its place. -/
theorem Rd.byte {l : List UInt8} {k : Nat} (h : Rd w B 1 A n (bv l)) (hk : k < n) :
    ∃ b o, A = some ⟨b, o, none⟩ ∧ b < B ∧ w.cell? ⟨b, o + k, none⟩ = some (.int .u8 ((l.getD k 0).toNat : Int)) := by
  obtain ⟨b, o, u, e, hb, hx, hc⟩ := h.at_ hk
  refine ⟨b, o, e, hb, ?_⟩
  have hl : k < l.length := by have := h.len; rw [bv_length] at this; omega
  rw [bv_get?, List.getElem?_eq_getElem hl] at hx
  rw [hc, ← hx]
  simp [List.getD, List.getElem?_eq_getElem hl]
theorem Rd.cut (h : Rd w B 1 A n xs) {k cap : Nat} (hk : k ≤ n) (hc : n ≤ cap) :
    Rd w B 1 (if cap = k then A else A.map (·.add k)) (n - k) (xs.drop k) := by
  refine ⟨by rw [List.length_drop, h.1]; omega, fun hn => ?_⟩
  obtain ⟨b, o, rfl, hb, hcell⟩ := h.2 (by omega)
  rw [if_neg (by omega)]
  refine ⟨b, o + k, by simp [Addr.add], hb, fun j u hu => ?_⟩
  rw [Nat.add_assoc]
  exact hcell _ u (by rw [← hu, List.getElem?_drop])
theorem Rd.front (h : Rd w B 1 A n xs) {k : Nat} (hk : k ≤ n) : Rd w B 1 A k (xs.take k) := by
  refine ⟨by rw [List.length_take, h.1]; omega, fun hn => ?_⟩
  obtain ⟨b, o, rfl, hb, hcell⟩ := h.2 (by omega)
  refine ⟨b, o, rfl, hb, fun j u hu => hcell j u ?_⟩
  rw [List.getElem?_take] at hu
  split at hu
  · exact hu
  · cases hu
end

/-- The slice (A, n, c) is one of the call's own: its block lies from 'base' on. -/
def Own (w : World) (base : Nat) (e : TypeId) (size : Nat) (A : Option Addr) (n c : Nat) (xs : List Value) : Prop :=
  w.ownsRow base e size (.slice A n c) n xs ∧ n ≤ c ∧ c ≤ maxLen

section
variable {w w' : World} {base size n c : Nat} {e : TypeId} {A : Option Addr} {xs : List Value}
theorem own_slice {v : Value} (h : w.ownsRow base e size v n xs) : ∃ A c, v = .slice A n c ∧ Own w base e size A n c xs := by
  have h' := h
  rcases h.2 with ⟨rfl, rfl⟩ | ⟨g, cap, cur, rfl, h1, h2, h3, h4, h5⟩
  · exact ⟨none, 0, rfl, h', Nat.le_refl _, by simp [maxLen]⟩
  · exact ⟨_, cap, rfl, h', h3, h4⟩
theorem Own.nil_ : Own w base e size none 0 0 [] := ⟨World.ownsRow_nil _ _ _ _, Nat.le_refl _, by simp [maxLen]⟩
theorem Own.len (h : Own w base e size A n c xs) : xs.length = n * size := h.1.1
theorem Own.rd (h : Own w base e size A n c xs) : Rd w w.heap.size size A n xs := by
  refine ⟨h.1.1, fun hn => ?_⟩
  rcases h.1.2 with ⟨hv, rfl⟩ | ⟨g, cap, cur, hv, h1, h2, h3, h4, h5, h6⟩
  · simp at hn
  · injection hv with hA
    subst hA
    have hg : g < w.heap.size := by
      rcases Nat.lt_or_ge g w.heap.size with hlt | hge
      · exact hlt
      · rw [Array.getElem?_eq_none hge] at h2; cases h2
    refine ⟨g, 0, rfl, hg, fun j u hu => ?_⟩
    have := h.1.cells (g := g) rfl j u hu
    have e0 : (⟨g, 0 + j, none⟩ : Addr) = (⟨g, 0, none⟩ : Addr).add j := by by_cases hj : j = 0 <;> simp [Addr.add, hj]
    rw [e0]; exact this
theorem Own.below {B : Nat} (h : Own w base e size A n c xs) (hb : Below B w w') (hs : w.heap.size ≤ B) : Own w' base e size A n c xs :=
  ⟨h.1.kept (row := none) ⟨hb.os, hb.tape, hb.output, hb.size, fun k hk _ => hb.block k (by omega)⟩ (by
    by_cases hA : Value.ownBlock (.slice A n c) = none
    · exact .inl hA
    · exact .inr hA), h.2⟩
theorem Own.alloc (h : Own w base e size A n c xs) (o : Obj) : Own (w.alloc o) base e size A n c xs := ⟨h.1.alloc o, h.2⟩
theorem Own.drew (h : Own w base e size A n c xs) : Own w.drew base e size A n c xs := h
theorem Own.drewN (h : Own w base e size A n c xs) (k : Nat) : Own (w.drewN k) base e size A n c xs := h
theorem Own.base_le {b' : Nat} (h : Own w base e size A n c xs) (hb : b' ≤ base) : Own w b' e size A n c xs := by
  refine ⟨⟨h.1.1, ?_⟩, h.2⟩
  rcases h.1.2 with h0 | ⟨g, cap, cur, hv, h1, h2⟩
  · exact .inl h0
  · exact .inr ⟨g, cap, cur, hv, by omega, h2⟩
end

theorem below_drewN {B : Nat} {a w : World} (h : Below B a w) (k : Nat) : Below B a (w.drewN k) := ⟨h.os, h.tape, h.output, h.size, h.block⟩
theorem below_of_le {B B' : Nat} {a w : World} (h : Below B a w) (hb : B' ≤ B) : Below B' a w := ⟨h.os, h.tape, h.output, h.size, fun k hk => h.block k (by omega)⟩
/-- Step after step: what is kept below the heap's first size. -/
theorem below_step {W w1 w2 : World} (h1 : Below W.heap.size W w1) (h2 : Below w1.heap.size w1 w2) : Below W.heap.size W w2 := h1.trans (below_of_le h2 h1.size)
theorem ret_int {k : IntKind} {a b : Int} (h : a = b) : Ending.returned (.int k a) = .returned (.int k b) := by rw [h]
theorem ret_bool {a b : Bool} (h : a = b) : Ending.returned (.bool a) = .returned (.bool b) := by rw [h]

/-- 'append(own, xs...)', xs whatever reads: nil, empty or not. -/
theorem run_append_nil {P : Program} {w : World} (base : Nat) (t ty e : TypeId) (i : TypeInfo) (size : Nat) (ht : P.underlying t = some (.slice e)) (hi : P.info? e = some i)
    (v : Value) (n : Nat) (xs : List Value) (hown : w.ownsRow base e size v n xs) (c : Nat) : (Builtin.append_ #[t, t] ty #[v, .slice none 0 c]).run P w = .ok v w := by
  rcases hown.2 with ⟨rfl, rfl⟩ | ⟨g, cap, cur, rfl, _, _, hnc, _⟩
  · simp [Builtin.append_, run_underlying ht, sizeOf, typeInfo, hi, Builtin.lenOf, Builtin.firstCells]
  · simp [Builtin.append_, run_underlying ht, sizeOf, typeInfo, hi, Builtin.lenOf, Builtin.firstCells, hnc, storeCells]
theorem own_below {w w' : World} {base : Nat} {e : TypeId} {size : Nat} {v : Value} {n : Nat} {xs : List Value} (h : w.ownsRow base e size v n xs) (hg : w.grownBy w' v.ownBlock) (hb : base ≤ w.heap.size) : Below base w w' :=
  (Below.refl _ _).grown hg hb (fun g hg' => (h.lt g hg').1)
theorem wpList_append_rd {P : Program} (w : World) {ops : Array Oper} {rest : List Oper} {o : Oper} {a : Act} {Q : Exit → Act → World → Prop} (hgd : o.guard = none) (s x : Operand) (t : TypeId)
    (ho : o.op = .call { callee := .builtin .append, args := #[s, x], argTypes := #[t, t] })
    (base : Nat) (e : TypeId) (i : TypeInfo) (z : Value) (size bytes : Nat) (ht : P.underlying t = some (.slice e)) (hi : P.info? e = some i) (hz : i.zero = some z)
    (hsize : i.size = size) (hby : i.bytes = bytes) (hzs : z.cells.size = size) (hsz : 0 < size) (hbp : 0 < bytes)
    (A : Option Addr) (n c : Nat) (xs : List Value) (hs : a.eval s = .slice A n c) (hown : Own w base e size A n c xs)
    (B : Nat) (A' : Option Addr) (m c' : Nat) (news : List Value) (hx : a.eval x = .slice A' m c') (hr : Rd w B size A' m news) (h1 : ∀ u ∈ news, u.oneCell' = true)
    (hbytes : (n + m) * bytes ≤ 140737488355328) (hbase : base ≤ w.heap.size)
    (h : ∀ A2 c2 w', Own w' base e size A2 (n + m) c2 (xs ++ news) → Below base w w' → wpList P ops Q rest (a.put o.dst (.slice A2 (n + m) c2)) w') : wpList P ops Q (o :: rest) a w := by
  have h63 : n + m ≤ maxLen := by
    have := Nat.le_mul_of_pos_right (n + m) hbp
    simp only [maxLen]; omega
  have fin : ∀ v' w', w'.ownsRow base e size v' (n + m) (xs ++ news) → w.grownBy w' (Value.slice A n c).ownBlock → wpList P ops Q rest (a.put o.dst v') w' := by
    intro v' w' h2 h3
    obtain ⟨A2, c2, rfl, ho2⟩ := own_slice h2
    exact h A2 c2 w' ho2 (own_below hown.1 h3 hbase)
  rcases A' with _ | ad
  · have hm : m = 0 := by
      rcases Nat.eq_zero_or_pos m with h0 | h0
      · exact h0
      · obtain ⟨b, o, h, _⟩ := hr.2 (Nat.mul_pos h0 hsz)
        cases h
    subst hm
    have hn : news = [] := List.eq_nil_of_length_eq_zero (by simpa using hr.1)
    subst hn
    refine wpList_plain hgd fun K hK => ?_
    have hrun := run_append_nil (P := P) (w := w) base t o.type e i size ht hi _ n xs hown.1 c'
    unfold Oper.wp
    simp [execOp, ho, resolve, invoke, builtin, hs, hx, hrun, Result.andThen]
    exact hK _ _ (fin _ _ (by simpa using hown.1) (World.grownBy.refl w _))
  · refine wpList_append_own w hgd s x t ho base e i z size bytes ht hi hz hsize hby hzs hsz _ n xs hs hown.1 ad m c' news hx hr.1 ?_ h1 h63 hbytes hbase (fun v' w' h2 h3 _ => fin v' w' h2 h3)
    intro j u hu
    have hl : 0 < m * size := by
      rcases Nat.eq_zero_or_pos (m * size) with h0 | h0
      · have : news = [] := List.eq_nil_of_length_eq_zero (by rw [hr.1, h0])
        subst this
        simp at hu
      · exact h0
    obtain ⟨b, o, he, _, hc⟩ := hr.2 hl
    injection he with he
    subst he
    have e0 : (⟨b, o, none⟩ : Addr).add j = ⟨b, o + j, none⟩ := by by_cases hj : j = 0 <;> simp [Addr.add, hj]
    rw [e0]
    exact hc j u hu
/-- A block that has just been laid, one row of one-cell elements, as a source. -/
theorem Rd.fresh (w : World) (cs : Array Value) (e : TypeId) (n : Nat) (h : cs.size = n) : Rd (w.alloc (.cells cs e)) (w.heap.size + 1) 1 (some ⟨w.heap.size, 0, none⟩) n cs.toList := by
  refine ⟨by simpa using h, fun _ => ⟨w.heap.size, 0, rfl, by omega, fun j u hu => ?_⟩⟩
  rw [cell_of_row _ _ _ cs e (0, 0) (heap_alloc_new w _), Nat.zero_add, ← hu]
  simp
end Go.Proofs.YtpakmeegldgjmaaGreat
/- Words of memory, more: appends behind a guard; 'append(xs, make([]T, n)...)'. -/
namespace Go.Proofs.YtpakmeegldgjmaaGreat
open Go.RowKit
set_option linter.unusedVariables false
set_option maxRecDepth 100000

section
variable {P : Program}
theorem wpList_want {w : World} {ops : Array Oper} {rest : List Oper} {o : Oper} {a : Act} {Q : Exit → Act → World → Prop} (hw : Region.wanted o (yielded ops a.tmps) = true)
    (h : ∀ K : Act → World → Prop, (∀ a w, wpList P ops Q rest a w → K a w) → o.wp P a w K Q) : wpList P ops Q (o :: rest) a w :=
  wpList_step fun K hK => by rw [if_pos hw]; exact h K hK
theorem wp_append_runs (w : World) {o : Oper} {a : Act} {K : Act → World → Prop} {Q : Exit → Act → World → Prop} (s x : Operand) (t tn : TypeId)
    (ho : o.op = .call { callee := .builtin .append, args := #[s, x], argTypes := #[t, tn] }) (vs vx : Value) (hs : a.eval s = vs) (hx : a.eval x = vx)
    (v' : Value) (w' : World) (hr : (Builtin.append_ #[t, tn] o.type #[vs, vx]).run P w = .ok v' w') (h : K (a.put o.dst v') w') : o.wp P a w K Q := Lib.wp_append_run w s x t tn ho vs vx hs hx v' w' hr h
theorem zeroCells_one (z : Value) (hzc : z.cells = #[z]) (k : Nat) : (Builtin.zeroCells z.cells k).toList = List.replicate k z := by
  rw [hzc]
  apply List.ext_getElem
  · simp [Builtin.zeroCells]
  · intro j h1 h2
    simp [Builtin.zeroCells, Nat.mod_one]
theorem run_append_zeros (w : World) (t tn ty : TypeId) (kn : IntKind) (htn : P.underlying tn = some (.int kn))
    (base : Nat) (e : TypeId) (i : TypeInfo) (z : Value) (bytes : Nat) (ht : P.underlying t = some (.slice e)) (hi : P.info? e = some i) (hz : i.zero = some z)
    (hsize : i.size = 1) (hby : i.bytes = bytes) (hzc : z.cells = #[z]) (hz1 : z.oneCell' = true) (hbp : 0 < bytes)
    (A : Option Addr) (n c : Nat) (xs : List Value) (hown : Own w base e 1 A n c xs) (k : Nat)
    (hbytes : (n + k) * bytes ≤ 140737488355328) (hbase : base ≤ w.heap.size) :
    ∃ A2 c2 w', (Builtin.append_ #[t, tn] ty #[.slice A n c, .int .i64 k]).run P w = .ok (.slice A2 (n + k) c2) w' ∧ Own w' base e 1 A2 (n + k) c2 (xs ++ List.replicate k z) ∧ Below base w w' := by
  have hnk : n + k ≤ 140737488355328 := by
    have := Nat.le_mul_of_pos_right (n + k) hbp
    omega
  have hwr : IntKind.i64.wrap (k : Int) = k := by rw [IntKind.wrap_i64]; omega
  have hkb : k * i.bytes ≤ 140737488355328 := by
    rw [hby]
    exact Nat.le_trans (Nat.mul_le_mul_right _ (by omega)) hbytes
  have hkb' : ¬ (281474976710656 < (k : Int) * (i.bytes : Int)) := by
    rw [← Int.natCast_mul]; omega
  rcases hown.1.2 with ⟨hv, _⟩ | ⟨g, cap, cur, hv, hbg, hg, hnc, hcm, hcs, htake⟩
  · injection hv with h1 h2 h3
    subst h1 h2 h3
    have hx0 : xs = [] := List.eq_nil_of_length_eq_zero (by have := hown.len; simpa using this)
    subst hx0
    have hneg : ¬ ((k : Int) < 0) := by omega
    by_cases hk0 : k = 0
    · subst hk0
      refine ⟨none, 0, w, ?_, by simpa using hown, Below.refl _ _⟩
      have hwr0 : IntKind.i64.wrap 0 = 0 := by rw [IntKind.wrap_i64]; omega
      simp [Builtin.append_, run_underlying ht, run_underlying htn, sizeOf, typeInfo, hi, asInt, asIntOf, hwr0]
    · have hr := Lib.run_append_nil_zeros (P := P) w t tn ty e i z .i64 kn ht htn hi hz k (by omega) (by omega) (by omega) (by omega)
      have hge := grownCap_ge w k 0 e
      have hcm2 := grownCap_le_maxLen w k 0 e (by simp only [maxLen]; omega)
      have hzs : z.cells.size = 1 := by rw [hzc]; rfl
      refine ⟨some ⟨w.heap.size, 0, none⟩, grownCap w k 0 e, _, by rw [Nat.zero_add]; exact hr, ⟨⟨by simp, .inr ⟨w.heap.size, _, _, rfl, hbase, heap_alloc_new w.drew _, by omega, hcm2, ?_, ?_⟩⟩, by omega, hcm2⟩, ?_⟩
      · simp [size_zeroCells, hzs]; omega
      · simp only [Array.toList_append, zeroCells_one z hzc, Nat.mul_one, List.nil_append, Nat.zero_add]
        have : (List.replicate k z).length = k := by simp
        conv => lhs; arg 1; rw [← this]
        exact List.take_left
      · exact ((Below.refl base w).drew).alloc hbase _
  · injection hv with h1 h2 h3
    subst h1 h3
    have hlt : g < w.heap.size := by
      rcases Nat.lt_or_ge g w.heap.size with h | h
      · exact h
      · rw [Array.getElem?_eq_none h] at hg; cases hg
    have hneg : ¬ ((k : Int) < 0) := by omega
    by_cases hk0 : k = 0
    · subst hk0
      refine ⟨_, c, w, ?_, by simpa using hown, Below.refl _ _⟩
      have hwr0 : IntKind.i64.wrap 0 = 0 := by rw [IntKind.wrap_i64]; omega
      simp [Builtin.append_, run_underlying ht, run_underlying htn, sizeOf, typeInfo, hi, hnc, asInt, asIntOf, storeCells, hwr0]
    · have hns : ¬ (k * i.size = 0) := Nat.mul_ne_zero hk0 (by omega)
      by_cases hroom : n + k ≤ c
      · have hst := run_storeCells_at P g n e (List.replicate k z) 0 cur w hg (by simp; omega) (by intro v hv; rw [List.eq_of_mem_replicate hv]; exact hz1)
        simp only [Nat.add_zero, List.length_replicate] at hst
        have hs1 : n * i.size = n := by rw [hsize, Nat.mul_one]
        have hxl : xs.length = n := by have := hown.len; omega
        have htk : cur.toList.take n = xs := by rw [← htake, Nat.mul_one]
        refine ⟨_, c, w.setRow g (cur.toList.take n ++ List.replicate k z ++ cur.toList.drop (n + k)).toArray, ?_, ⟨⟨?_, .inr ⟨g, c, _, rfl, hbg, setRow_heap w g cur _ e _ hg, hroom, hcm, ?_, ?_⟩⟩, hroom, hcm⟩, ?_⟩
        · simp [Builtin.append_, run_underlying ht, run_underlying htn, sizeOf, typeInfo, zeroValue, hi, hz, asInt, asIntOf, hwr, hneg, hns, hkb', hroom, hs1, zeroCells_one z hzc, Addr.add_lit, hst]
        · simp; omega
        · simp; omega
        · rw [htk, Nat.mul_one]
          have : (xs ++ List.replicate k z).length = n + k := by simp; omega
          rw [← this]
          exact List.take_left
        · refine ⟨rfl, rfl, rfl, by simp, fun j hj => setRow_other w g j _ (by omega)⟩
      · have holds : ∀ j u, xs[j]? = some u → w.cell? ((⟨g, 0, none⟩ : Addr).add j) = some u := hown.1.cells (g := g) rfl
        have hxl : xs.length = n := by have := hown.len; omega
        have hold := run_firstCells_some (P := P) w.drew i.size n ⟨g, 0, none⟩ n c xs (by rw [hsize]; omega) (fun j v hv => holds j v hv)
        have hr := Lib.run_append_grow_zeros (P := P) w t tn ty e i z .i64 kn ht htn hi hz (some ⟨g, 0, none⟩) n c xs hold k (by omega) (by omega) (by omega) (by omega) (by omega) (by rw [hby]; exact growslice_fits (by omega) hbytes)
        have hge := grownCap_ge w (n + k) c e
        have hcm2 := grownCap_le_maxLen w (n + k) c e (by simp only [maxLen]; omega)
        refine ⟨_, _, _, hr, ⟨⟨?_, .inr ⟨w.heap.size, _, _, rfl, hbase, heap_alloc_new w.drew _, hge, hcm2, ?_, ?_⟩⟩, hge, hcm2⟩, ?_⟩
        · simp; omega
        · have hzs : z.cells.size = 1 := by rw [hzc]; rfl
          simp [size_zeroCells, hzs]; omega
        · simp only [Array.toList_append, List.append_assoc, zeroCells_one z hzc, Nat.mul_one]
          rw [← List.append_assoc]
          have : (xs ++ List.replicate k z).length = n + k := by simp; omega
          rw [← this]
          exact List.take_left
        · exact ((Below.refl base w).drew).alloc hbase _
theorem wpList_append_zerosw (w : World) {ops : Array Oper} {rest : List Oper} {o : Oper} {a : Act} {Q : Exit → Act → World → Prop} (hw : Region.wanted o (yielded ops a.tmps) = true) (s x : Operand) (t tn : TypeId)
    (ho : o.op = .call { callee := .builtin .append, args := #[s, x], argTypes := #[t, tn] }) (kn : IntKind) (htn : P.underlying tn = some (.int kn))
    (base : Nat) (e : TypeId) (i : TypeInfo) (z : Value) (bytes : Nat) (ht : P.underlying t = some (.slice e)) (hi : P.info? e = some i) (hz : i.zero = some z)
    (hsize : i.size = 1) (hby : i.bytes = bytes) (hzc : z.cells = #[z]) (hz1 : z.oneCell' = true) (hbp : 0 < bytes)
    (A : Option Addr) (n c : Nat) (xs : List Value) (hs : a.eval s = .slice A n c) (hown : Own w base e 1 A n c xs) (k : Nat) (hx : a.eval x = .int .i64 k)
    (hbytes : (n + k) * bytes ≤ 140737488355328) (hbase : base ≤ w.heap.size)
    (h : ∀ A2 c2 w', Own w' base e 1 A2 (n + k) c2 (xs ++ List.replicate k z) → Below base w w' → wpList P ops Q rest (a.put o.dst (.slice A2 (n + k) c2)) w') : wpList P ops Q (o :: rest) a w :=
  wpList_want hw fun K hK => by
    obtain ⟨A2, c2, w', hrun, h2, h3⟩ := run_append_zeros (P := P) w t tn o.type kn htn base e i z bytes ht hi hz hsize hby hzc hz1 hbp A n c xs hown k hbytes hbase
    exact wp_append_runs w s x t tn ho _ _ hs hx _ w' hrun (hK _ _ (h A2 c2 w' h2 h3))
end
end Go.Proofs.YtpakmeegldgjmaaGreat
/- Words of memory, more: a block that is known whole; what an append leaves beside its own row. -/
namespace Go.Proofs.YtpakmeegldgjmaaGreat
open Go.RowKit
set_option linter.unusedVariables false
set_option maxRecDepth 100000

/-- Block g holds just the cells cs (of element type t), none frozen. -/
def Whole (w : World) (g : Nat) (t : TypeId) (cs : Array Value) : Prop := w.heap[g]? = some (.cells cs t (0, 0))
section
variable {w w' : World} {g : Nat} {t : TypeId} {cs : Array Value}
theorem Whole.lt (h : Whole w g t cs) : g < w.heap.size := by
  rcases Nat.lt_or_ge g w.heap.size with hlt | hge
  · exact hlt
  · unfold Whole at h; rw [Array.getElem?_eq_none hge] at h; cases h
theorem Whole.cell (h : Whole w g t cs) (i : Nat) : w.cell? ⟨g, i, none⟩ = cs[i]? := cell_of_row w g i cs t (0, 0) h
theorem Whole.free (h : Whole w g t cs) (i : Nat) : w.frozen? ⟨g, i, none⟩ = false := by
  unfold Whole at h
  simp [World.frozen?, h]
theorem Whole.new (w : World) (t : TypeId) (cs : Array Value) : Whole (w.alloc (.cells cs t)) w.heap.size t cs := heap_alloc_new w _
theorem Whole.drew (h : Whole w g t cs) : Whole w.drew g t cs := h
theorem Whole.drewN (h : Whole w g t cs) (n : Nat) : Whole (w.drewN n) g t cs := h
theorem Whole.alloc (h : Whole w g t cs) (o : Obj) : Whole (w.alloc o) g t cs := (Below.heap_alloc w o g h.lt).trans h
theorem Whole.set_ (h : Whole w g t cs) (i : Nat) (u : Value) : Whole (w.setCell ⟨g, i, none⟩ u) g t (cs.setIfInBounds i u) := by
  unfold Whole at h ⊢
  simp [World.setCell, Array.getElem?_modify, h]
theorem Whole.far (h : Whole w g t cs) {p : Addr} (hp : g ≠ p.block) (u : Value) : Whole (w.setCell p u) g t cs := (Below.heap_setCell w p u g hp).trans h
theorem Whole.below {B : Nat} (h : Whole w g t cs) (hb : Below B w w') (hg : g < B) : Whole w' g t cs := (hb.block g hg).trans h
theorem Whole.grown {row : Option Nat} (h : Whole w g t cs) (hb : w.grownBy w' row) (hg : row ≠ some g) : Whole w' g t cs := (hb.block g h.lt (fun e => hg e.symm)).trans h
theorem Whole.ne_ {g' : Nat} {t' : TypeId} {cs' : Array Value} (h : Whole w g t cs) (h' : Whole w g' t' cs') (hne : t ≠ t') : g ≠ g' := by
  rintro rfl
  unfold Whole at h h'
  rw [h] at h'
  injection h' with h'
  injection h' with _ ht
  exact hne ht
theorem Own.ne_ {base size n c : Nat} {e : TypeId} {A : Option Addr} {xs : List Value} (h : Own w base e size A n c xs) (hg : Whole w g t cs) (hne : e ≠ t) : (Value.slice A n c).ownBlock ≠ some g := by
  rcases h.1.2 with ⟨hv, _⟩ | ⟨g', cap, cur, hv, _, hh, _⟩
  · rw [hv]; simp [Value.ownBlock]
  · intro he
    rw [hv] at he
    have : g' = g := by simpa [Value.ownBlock] using he
    subst this
    exact Whole.ne_ (t := e) hh hg hne rfl
theorem Own.far {base size n c : Nat} {e : TypeId} {A : Option Addr} {xs : List Value} (h : Own w base e size A n c xs) {p : Addr} (hne : (Value.slice A n c).ownBlock ≠ some p.block) (u : Value) : Own (w.setCell p u) base e size A n c xs :=
  ⟨h.1.kept (row := some p.block) ⟨rfl, rfl, rfl, by simp, fun k _ hk => Below.heap_setCell w p u k (fun e => hk (by rw [e]))⟩ (.inr hne), h.2⟩
theorem Own.block_lt {base size n c : Nat} {e : TypeId} {A : Option Addr} {xs : List Value} (h : Own w base e size A n c xs) : ∀ k, (Value.slice A n c).ownBlock = some k → base ≤ k ∧ k < w.heap.size := h.1.lt
end
section
variable {P : Program}
end
end Go.Proofs.YtpakmeegldgjmaaGreat
/- Words of memory, more: cuts of slices as run equations under one name. -/
namespace Go.Proofs.YtpakmeegldgjmaaGreat
open Go.RowKit
set_option linter.unusedVariables false
set_option maxRecDepth 100000

/-- The address of 's[k:]'. -/
def cutA (A : Option Addr) (c k : Nat) : Option Addr := if c = k then A else A.map (·.add k)
theorem add0 (A : Option Addr) : A.map (·.add 0) = A := by cases A <;> simp [Addr.add]
theorem Rd.cutA_ {w : World} {B n k c : Nat} {A : Option Addr} {xs : List Value} (h : Rd w B 1 A n xs) (hk : k ≤ n) (hc : n ≤ c) : Rd w B 1 (cutA A c k) (n - k) (xs.drop k) := h.cut hk hc
section
variable {P : Program} (t : TypeId) (ht : P.underlying t = some (.slice (P.elem t))) (hs : ∀ w, (sizeOf (P.elem t)).run P w = .ok 1 w)
include ht hs
theorem run_from (A : Option Addr) (n c k : Nat) (hk : k ≤ n) (w : World) :
    (Instr.slice t (.slice A n c) (some (.int .i64 k)) none none).run P w = .ok (.slice (cutA A c k) (n - k) (c - k)) w := by
  rw [run_slice_l w t A n c ht .i64 k (by omega) (by omega), hs]
  simp [sliced, cutA, Result.andThen]
theorem run_to (A : Option Addr) (n c k : Nat) (hk : k ≤ c) (w : World) :
    (Instr.slice t (.slice A n c) none (some (.int .i64 k)) none).run P w = .ok (.slice A k c) w := by
  rw [run_slice_h w t A n c ht .i64 k (by omega) (by omega), hs]
  simp [sliced, Result.andThen]
  intro _
  exact add0 A
theorem run_mid (A : Option Addr) (n c l h : Nat) (h1 : l ≤ h) (h2 : h ≤ c) (w : World) :
    (Instr.slice t (.slice A n c) (some (.int .i64 l)) (some (.int .i64 h)) none).run P w = .ok (.slice (cutA A c l) (h - l) (c - l)) w := by
  rw [run_slice_lh w t A n c ht .i64 .i64 l h (by omega) (by omega) (by omega), hs]
  simp [sliced, cutA, Result.andThen]
theorem run_mid3 (A : Option Addr) (n c l h m : Nat) (h1 : l ≤ h) (h2 : h ≤ m) (h3 : m ≤ c) (w : World) :
    (Instr.slice t (.slice A n c) (some (.int .i64 l)) (some (.int .i64 h)) (some (.int .i64 m))).run P w = .ok (.slice (cutA A m l) (h - l) (m - l)) w := by
  rw [run_slice_lhm w t A n c ht .i64 .i64 .i64 l h m (by omega) (by omega) (by omega) (by omega), hs]
  simp [sliced, cutA, Result.andThen]
end
/-- 's[l:h]' reads the middle. -/
theorem Rd.mid {w : World} {B n l h c : Nat} {A : Option Addr} {xs : List Value} (r : Rd w B 1 A n xs) (h1 : l ≤ h) (h2 : h ≤ n) (hc : n ≤ c) : Rd w B 1 (cutA A c l) (h - l) ((xs.drop l).take (h - l)) :=
  (r.cut (by omega) hc).front (by omega)
end Go.Proofs.YtpakmeegldgjmaaGreat
/- Words of memory, more: what is changed but for a set of old blocks; appends that tell where the result lies. -/
namespace Go.Proofs.YtpakmeegldgjmaaGreat
open Go.RowKit
set_option linter.unusedVariables false
set_option maxRecDepth 100000

/-- The block of a slice's address. -/
def bl (A : Option Addr) : Option Nat := A.map (·.block)
theorem ownBlock_bl (A : Option Addr) (n c : Nat) : (Value.slice A n c).ownBlock = bl A := by cases A <;> rfl
/-- Of the old blocks only those in S may have changed. -/
structure Ch (S : Nat → Prop) (w w' : World) : Prop where
  os : w'.os = w.os
  tape : w'.tape = w.tape
  output : w'.output = w.output
  size : w.heap.size ≤ w'.heap.size
  block : ∀ k, k < w.heap.size → ¬ S k → w'.heap[k]? = w.heap[k]?
section
variable {S S' : Nat → Prop} {w w' w1 w2 : World}
theorem Ch.refl (S : Nat → Prop) (w : World) : Ch S w w := ⟨rfl, rfl, rfl, Nat.le_refl _, fun _ _ _ => rfl⟩
theorem Ch.mono (h : Ch S w w') (hS : ∀ k, k < w.heap.size → S k → S' k) : Ch S' w w' := ⟨h.os, h.tape, h.output, h.size, fun k hk hn => h.block k hk fun hs => hn (hS k hk hs)⟩
theorem Ch.trans (h : Ch S w w1) (k : Ch S' w1 w2) (hS : ∀ k, k < w.heap.size → S' k → S k) : Ch S w w2 :=
  ⟨k.os.trans h.os, k.tape.trans h.tape, k.output.trans h.output, Nat.le_trans h.size k.size, fun i hi hn => (k.block i (Nat.lt_of_lt_of_le hi h.size) fun hs => hn (hS i hi hs)).trans (h.block i hi hn)⟩
theorem below_ch (h : Below w.heap.size w w') : Ch S w w' := ⟨h.os, h.tape, h.output, h.size, fun k hk _ => h.block k hk⟩
theorem grown_ch {row : Option Nat} (h : w.grownBy w' row) : Ch (fun k => some k = row) w w' := ⟨h.os, h.tape, h.output, h.size, fun k hk hn => h.block k hk hn⟩
theorem Ch.set_ (w : World) (p : Addr) (u : Value) : Ch (fun k => k = p.block) w (w.setCell p u) := ⟨rfl, rfl, rfl, by simp, fun k _ hk => Below.heap_setCell w p u k hk⟩
theorem Ch.alloc_ (S : Nat → Prop) (w : World) (o : Obj) : Ch S w (w.alloc o) := below_ch ((Below.refl _ _).alloc (Nat.le_refl _) _)
theorem Ch.drew (h : Ch S w w') : Ch S w w'.drew := ⟨h.os, h.tape, h.output, h.size, h.block⟩
theorem Ch.drewN (h : Ch S w w') (n : Nat) : Ch S w (w'.drewN n) := ⟨h.os, h.tape, h.output, h.size, h.block⟩
theorem Ch.below {B : Nat} (h : Ch S w w') (hS : ∀ k, k < B → ¬ S k) (hB : B ≤ w.heap.size) : Below B w w' := ⟨h.os, h.tape, h.output, h.size, fun k hk => h.block k (Nat.lt_of_lt_of_le hk hB) (hS k hk)⟩
theorem Rd.ch {B size n : Nat} {A : Option Addr} {xs : List Value} (r : Rd w B size A n xs) (hB : B ≤ w.heap.size) (h : Ch S w w') (hS : ∀ k, k < B → bl A = some k → ¬ S k) : Rd w' B size A n xs :=
  ⟨r.1, fun hn => by
    obtain ⟨b, o, e, hb, hc⟩ := r.2 hn
    refine ⟨b, o, e, hb, fun j u hu => ?_⟩
    rw [World.cell?_of_block (h.block b (Nat.lt_of_lt_of_le hb hB) (hS b hb (by rw [e]; rfl)))]
    exact hc j u hu⟩
theorem Own.ch {base size n c : Nat} {e : TypeId} {A : Option Addr} {xs : List Value} (r : Own w base e size A n c xs) (h : Ch S w w') (hS : ∀ k, base ≤ k → k < w.heap.size → bl A = some k → ¬ S k) : Own w' base e size A n c xs := by
  refine ⟨⟨r.1.1, ?_⟩, r.2⟩
  rcases r.1.2 with h0 | ⟨g, cap, cur, hv, h1, h2, h3⟩
  · exact .inl h0
  · have hg : g < w.heap.size := (Array.getElem?_eq_some_iff.1 h2).1
    refine .inr ⟨g, cap, cur, hv, h1, (h.block g hg (hS g h1 hg ?_)).trans h2, h3⟩
    injection hv with hA
    rw [hA]; rfl
theorem Whole.ch {g : Nat} {t : TypeId} {cs : Array Value} (r : Whole w g t cs) (h : Ch S w w') (hS : ¬ S g) : Whole w' g t cs := (h.block g r.lt hS).trans r
end

section
variable {P : Program}
/-- Where the result of an append onto an own row lies: in that row, or in a new block. -/
def Near (w : World) (A A2 : Option Addr) : Prop := bl A2 = bl A ∨ bl A2 = some w.heap.size
theorem near_of_own (w : World) (base : Nat) (t ty e : TypeId) (i : TypeInfo) (z : Value) (size bytes : Nat) (ht : P.underlying t = some (.slice e)) (hi : P.info? e = some i) (hz : i.zero = some z)
    (hsize : i.size = size) (hby : i.bytes = bytes) (hzs : z.cells.size = size) (hsz : 0 < size)
    (v : Value) (n : Nat) (xs : List Value) (hown : w.ownsRow base e size v n xs)
    (a : Addr) (m c : Nat) (news : List Value) (hl : news.length = m * size) (hnews : ∀ j u, news[j]? = some u → w.cell? (a.add j) = some u) (h1 : ∀ u ∈ news, u.oneCell' = true)
    (h63 : n + m ≤ maxLen) (hbytes : (n + m) * bytes ≤ 140737488355328)
    {v' : Value} {w' : World} (hrun : (Builtin.append_ #[t, t] ty #[v, .slice (some a) m c]).run P w = .ok v' w') : v'.ownBlock = v.ownBlock ∨ v'.ownBlock = some w.heap.size := by
  subst hsize
  subst hby
  have hsmall : n + m ≤ 9223372036854775807 := by simp only [maxLen] at h63; omega
  rcases hown.2 with ⟨rfl, rfl⟩ | ⟨g, cap, cur, rfl, hbg, hg, hnc, hcm, hcs, htake⟩
  · by_cases hm : m = 0
    · subst hm
      have hr : (Builtin.append_ #[t, t] ty #[.slice none 0 0, .slice (some a) 0 c]).run P w = .ok (.slice none 0 0) w := by
        simp [Builtin.append_, run_underlying ht, sizeOf, typeInfo, hi, Builtin.lenOf, Builtin.firstCells, loadCells, loadCellsFrom]
      rw [hr] at hrun
      injection hrun with hv _
      exact .inl (by rw [← hv])
    · have hr := Go.run_append_nil (P := P) w t ty e i z ht hi hz a m c news hl hnews (by omega) (by omega) (by have hb := hbytes; simp only [Nat.zero_add] at hb; omega)
      rw [hr] at hrun
      injection hrun with hv _
      exact .inr (by rw [← hv]; rfl)
  · by_cases hroom : n + m ≤ cap
    · have hfit : n * i.size + news.length ≤ cur.size := by rw [hl, hcs, ← Nat.add_mul]; exact Nat.mul_le_mul_right _ hroom
      have hr := run_append_room (P := P) w t ty e i ht hi g n cap cur hg a m c news hl hnews h1 hroom hfit
      rw [hr] at hrun
      injection hrun with hv _
      exact .inl (by rw [← hv]; rfl)
    · have holds : ∀ j u, xs[j]? = some u → w.cell? ((⟨g, 0, none⟩ : Addr).add j) = some u := hown.cells (g := g) rfl
      have hr := run_append_grow (P := P) w t ty e i z ht hi hz ⟨g, 0, none⟩ n cap xs hown.1 holds a m c news hl hnews (by omega) (by omega) (growslice_fits (by omega) hbytes)
      rw [hr] at hrun
      injection hrun with hv _
      exact .inr (by rw [← hv]; rfl)
theorem run_append_rdn (w : World) (t ty : TypeId)
    (base : Nat) (e : TypeId) (i : TypeInfo) (z : Value) (size bytes : Nat) (ht : P.underlying t = some (.slice e)) (hi : P.info? e = some i) (hz : i.zero = some z)
    (hsize : i.size = size) (hby : i.bytes = bytes) (hzs : z.cells.size = size) (hsz : 0 < size) (hbp : 0 < bytes)
    (A : Option Addr) (n c : Nat) (xs : List Value) (hown : Own w base e size A n c xs)
    (B : Nat) (A' : Option Addr) (m c' : Nat) (news : List Value) (hr : Rd w B size A' m news) (h1 : ∀ u ∈ news, u.oneCell' = true)
    (hbytes : (n + m) * bytes ≤ 140737488355328) (hbase : base ≤ w.heap.size) :
    ∃ A2 c2 w', (Builtin.append_ #[t, t] ty #[.slice A n c, .slice A' m c']).run P w = .ok (.slice A2 (n + m) c2) w' ∧ Own w' base e size A2 (n + m) c2 (xs ++ news) ∧ w.grownBy w' (bl A) ∧ Near w A A2 := by
  have h63 : n + m ≤ maxLen := by
    have := Nat.le_mul_of_pos_right (n + m) hbp
    simp only [maxLen]; omega
  rcases A' with _ | ad
  · have hm : m = 0 := by
      rcases Nat.eq_zero_or_pos m with h0 | h0
      · exact h0
      · obtain ⟨b, o, h, _⟩ := hr.2 (Nat.mul_pos h0 hsz)
        cases h
    subst hm
    have hn : news = [] := List.eq_nil_of_length_eq_zero (by simpa using hr.1)
    subst hn
    exact ⟨A, c, w, run_append_nil (P := P) (w := w) base t ty e i size ht hi _ n xs hown.1 c', by simpa using hown, World.grownBy.refl _ _, .inl rfl⟩
  · have hnews : ∀ j u, news[j]? = some u → w.cell? (ad.add j) = some u := by
      intro j u hu
      have hl : 0 < m * size := by
        rcases Nat.eq_zero_or_pos (m * size) with h0 | h0
        · have : news = [] := List.eq_nil_of_length_eq_zero (by rw [hr.1, h0])
          subst this
          simp at hu
        · exact h0
      obtain ⟨b, o, he, _, hc⟩ := hr.2 hl
      injection he with he
      subst he
      have e0 : (⟨b, o, none⟩ : Addr).add j = ⟨b, o + j, none⟩ := by by_cases hj : j = 0 <;> simp [Addr.add, hj]
      rw [e0]
      exact hc j u hu
    obtain ⟨v', w', hrun, h2, h3, _⟩ := run_append_own (P := P) w base t ty e i z size bytes ht hi hz hsize hby hzs hsz _ n xs hown.1 ad m c' news hr.1 hnews h1 h63 hbytes hbase
    have hnear := near_of_own (P := P) w base t ty e i z size bytes ht hi hz hsize hby hzs hsz _ n xs hown.1 ad m c' news hr.1 hnews h1 h63 hbytes hrun
    obtain ⟨A2, c2, rfl, ho2⟩ := own_slice h2
    rw [ownBlock_bl, ownBlock_bl] at hnear
    rw [ownBlock_bl] at h3
    exact ⟨A2, c2, w', hrun, ho2, h3, hnear⟩
theorem wpList_append_rdn (w : World) {ops : Array Oper} {rest : List Oper} {o : Oper} {a : Act} {Q : Exit → Act → World → Prop} (hw : Region.wanted o (yielded ops a.tmps) = true) (s x : Operand) (t : TypeId)
    (ho : o.op = .call { callee := .builtin .append, args := #[s, x], argTypes := #[t, t] })
    (base : Nat) (e : TypeId) (i : TypeInfo) (z : Value) (size bytes : Nat) (ht : P.underlying t = some (.slice e)) (hi : P.info? e = some i) (hz : i.zero = some z)
    (hsize : i.size = size) (hby : i.bytes = bytes) (hzs : z.cells.size = size) (hsz : 0 < size) (hbp : 0 < bytes)
    (A : Option Addr) (n c : Nat) (xs : List Value) (hs : a.eval s = .slice A n c) (hown : Own w base e size A n c xs)
    (B : Nat) (A' : Option Addr) (m c' : Nat) (news : List Value) (hx : a.eval x = .slice A' m c') (hr : Rd w B size A' m news) (h1 : ∀ u ∈ news, u.oneCell' = true)
    (hbytes : (n + m) * bytes ≤ 140737488355328) (hbase : base ≤ w.heap.size)
    (h : ∀ A2 c2 w', Own w' base e size A2 (n + m) c2 (xs ++ news) → w.grownBy w' (bl A) → Near w A A2 → wpList P ops Q rest (a.put o.dst (.slice A2 (n + m) c2)) w') : wpList P ops Q (o :: rest) a w :=
  wpList_want hw fun K hK => by
    obtain ⟨A2, c2, w', hrun, h2, h3, h4⟩ := run_append_rdn (P := P) w t o.type base e i z size bytes ht hi hz hsize hby hzs hsz hbp A n c xs hown B A' m c' news hr h1 hbytes hbase
    exact wp_append_runs w s x t t ho _ _ hs hx _ w' hrun (hK _ _ (h A2 c2 w' h2 h3 h4))
theorem near_of_own_string (w : World) (base : Nat) (t u ty e : TypeId) (i : TypeInfo) (ht : P.underlying t = some (.slice e)) (hu : P.underlying u = some .string) (hi : P.info? e = some i) (hz : i.zero = some (.int .u8 0))
    (hsize : i.size = 1) (hby : i.bytes = 1)
    (v : Value) (n : Nat) (xs : List Value) (hown : w.ownsRow base e 1 v n xs) (s : ByteArray)
    (h63 : n + s.size ≤ maxLen) (hbytes : n + s.size ≤ 140737488355328)
    {v' : Value} {w' : World} (hrun : (Builtin.append_ #[t, u] ty #[v, .string s]).run P w = .ok v' w') : v'.ownBlock = v.ownBlock ∨ v'.ownBlock = some w.heap.size := by
  have hsmall : n + s.size ≤ 9223372036854775807 := by simp only [maxLen] at h63; omega
  have hxl : xs.length = n := by simpa using hown.1
  rcases hown.2 with ⟨rfl, rfl⟩ | ⟨g, cap, cur, rfl, hbg, hg, hnc, hcm, hcs, htake⟩
  · by_cases hm : s.size = 0
    · have hf := Go.Lib.run_firstCells_string (P := P) w 1 s
      rw [hm] at hf
      have hn : Go.Lib.strCells s = [] := List.eq_nil_of_length_eq_zero (by rw [Go.Lib.strCells_length]; exact hm)
      have hr : (Builtin.append_ #[t, u] ty #[.slice none 0 0, .string s]).run P w = .ok (.slice none 0 0) w := by
        simp [Builtin.append_, run_underlying ht, run_underlying hu, sizeOf, typeInfo, hi, hsize, Builtin.lenOf, hm, hf]
      rw [hr] at hrun
      injection hrun with hv _
      exact .inl (by rw [← hv])
    · have hr := Go.run_append_nil_string (P := P) w t u ty e i (.int .u8 0) ht hu hi hz s (by omega) (by omega) (by rw [hby]; omega)
      rw [hr] at hrun
      injection hrun with hv _
      exact .inr (by rw [← hv]; rfl)
  · by_cases hroom : n + s.size ≤ cap
    · have hcs' : cur.size = cap := by simpa using hcs
      have hr := Go.Lib.run_append_room_string (P := P) w t u ty e i ht hu hi hsize g n cap cur hg s hroom (by omega)
      rw [hr] at hrun
      injection hrun with hv _
      exact .inl (by rw [← hv]; rfl)
    · have holds : ∀ j u, xs[j]? = some u → w.cell? ((⟨g, 0, none⟩ : Addr).add j) = some u := hown.cells (g := g) rfl
      have hr := Go.Lib.run_append_grow_string (P := P) w t u ty e i (.int .u8 0) ht hu hi hz ⟨g, 0, none⟩ n cap xs (by rw [hsize]; simpa using hxl) holds s (by omega) (by omega) (by rw [hby]; exact growslice_fits (by omega) (by omega))
      rw [hr] at hrun
      injection hrun with hv _
      exact .inr (by rw [← hv]; rfl)
/-- 'append(own, s...)', s a string. -/
theorem wpList_append_str (w : World) {ops : Array Oper} {rest : List Oper} {o : Oper} {a : Act} {Q : Exit → Act → World → Prop} (hw : Region.wanted o (yielded ops a.tmps) = true) (sl x : Operand) (t u : TypeId)
    (ho : o.op = .call { callee := .builtin .append, args := #[sl, x], argTypes := #[t, u] })
    (base : Nat) (e : TypeId) (i : TypeInfo) (ht : P.underlying t = some (.slice e)) (hu : P.underlying u = some .string) (hi : P.info? e = some i) (hz : i.zero = some (.int .u8 0))
    (hsize : i.size = 1) (hby : i.bytes = 1)
    (A : Option Addr) (n c : Nat) (xs : List Value) (hs : a.eval sl = .slice A n c) (hown : Own w base e 1 A n c xs) (s : ByteArray) (hx : a.eval x = .string s)
    (hbytes : n + s.size ≤ 140737488355328) (hbase : base ≤ w.heap.size)
    (h : ∀ A2 c2 w', Own w' base e 1 A2 (n + s.size) c2 (xs ++ Go.Lib.strCells s) → w.grownBy w' (bl A) → Near w A A2 → wpList P ops Q rest (a.put o.dst (.slice A2 (n + s.size) c2)) w') : wpList P ops Q (o :: rest) a w :=
  wpList_want hw fun K hK => by
    have h63 : n + s.size ≤ maxLen := by simp only [maxLen]; omega
    obtain ⟨v', w', hrun, h2, h3, _⟩ := Go.Lib.run_append_own_string (P := P) w base t u o.type e i ht hu hi hz hsize hby _ n xs hown.1 s h63 hbytes hbase
    have hnear := near_of_own_string (P := P) w base t u o.type e i ht hu hi hz hsize hby _ n xs hown.1 s h63 hbytes hrun
    obtain ⟨A2, c2, rfl, ho2⟩ := own_slice h2
    rw [ownBlock_bl, ownBlock_bl] at hnear
    rw [ownBlock_bl] at h3
    exact wp_append_runs w sl x t u ho _ _ hs hx _ w' hrun (hK _ _ (h A2 c2 w' ho2 h3 hnear))
end
end Go.Proofs.YtpakmeegldgjmaaGreat
/- Merged: BM, BN, B1, B2, B3, B4, B5. -/
/- Layer 1 (bits), plain: a number's bytes. No program in sight. -/
namespace Go.Proofs.YtpakmeegldgjmaaGreat
open Go.RowKit
set_option linter.unusedVariables false
set_option maxRecDepth 100000

/-- A number's k lowest bytes, the lowest first. -/
def leB : Nat → Nat → List UInt8
  | _, 0 => []
  | n, k + 1 => UInt8.ofNat (n % 256) :: leB (n / 256) k
theorem leB_length (n k : Nat) : (leB n k).length = k := by
  induction k generalizing n with
  | zero => rfl
  | succ k ih => simp [leB, ih]
theorem leB_snoc (n k : Nat) : leB n (k + 1) = leB n k ++ [UInt8.ofNat (n / 256 ^ k % 256)] := by
  induction k generalizing n with
  | zero => simp [leB]
  | succ k ih =>
    rw [leB, ih (n / 256)]
    simp only [leB, List.cons_append]
    rw [Nat.div_div_eq_div_mul, Nat.pow_succ, Nat.mul_comm]
/-- The number of bytes. -/
def ofLe : List UInt8 → Nat
  | [] => 0
  | c :: l => c.toNat + 256 * ofLe l
theorem ofLe_lt (l : List UInt8) : ofLe l < 256 ^ l.length := by
  induction l with
  | nil => simp [ofLe]
  | cons c l ih =>
    simp only [ofLe, List.length_cons, Nat.pow_succ]
    have := c.toNat_lt
    omega
theorem ofLe_append (l m : List UInt8) : ofLe (l ++ m) = ofLe l + 256 ^ l.length * ofLe m := by
  induction l with
  | nil => simp [ofLe]
  | cons c l ih =>
    simp only [List.cons_append, ofLe, ih, List.length_cons, Nat.pow_succ]
    rw [Nat.mul_add, ← Nat.mul_assoc, Nat.mul_comm 256 (256 ^ l.length)]
    omega
theorem ofLe_leB (n k : Nat) (h : n < 256 ^ k) : ofLe (leB n k) = n := by
  induction k generalizing n with
  | zero => simp [leB, ofLe] at h ⊢; omega
  | succ k ih =>
    simp only [leB, ofLe]
    rw [ih (n / 256) (by rw [Nat.pow_succ] at h; omega)]
    simp
    omega
theorem pow256 (k : Nat) : 256 ^ k = 2 ^ (8 * k) := by rw [Nat.pow_mul]
/-- The cells while the bytes are stored one by one. -/
def leCells (n k j : Nat) : List Value := bv (leB n j) ++ List.replicate (k - j) (.int .u8 0)
theorem leCells_zero (n k : Nat) : leCells n k 0 = List.replicate k (.int .u8 0) := by simp [leCells, leB, bv]
theorem leCells_full (n k : Nat) : leCells n k k = bv (leB n k) := by simp [leCells]
theorem leCells_at (n k j : Nat) (h : j < k) : (leCells n k j)[j]? = some (.int .u8 0) := by
  rw [leCells, List.getElem?_append_right (by simp [bv_length, leB_length])]
  rw [bv_length, leB_length, Nat.sub_self, List.getElem?_replicate, if_pos (by omega)]
theorem leCells_set (n k j : Nat) (h : j < k) : (leCells n k j).set j (.int .u8 ((UInt8.ofNat (n / 256 ^ j % 256)).toNat : Int)) = leCells n k (j + 1) := by
  unfold leCells
  rw [List.set_append_right _ _ (by simp [bv_length, leB_length]), bv_length, leB_length, Nat.sub_self, leB_snoc, bv_append]
  obtain ⟨r, hr⟩ : ∃ r, k - j = r + 1 := ⟨k - j - 1, by omega⟩
  rw [hr, List.replicate_succ, List.set_cons_zero, show k - (j + 1) = r by omega, List.append_assoc]
  rfl
end Go.Proofs.YtpakmeegldgjmaaGreat
/- Layer 1 (bits), plain: bits of turned words, of fields, and a number's width. No program in sight. -/
namespace Go.Proofs.YtpakmeegldgjmaaGreat
open Go.RowKit
set_option linter.unusedVariables false
set_option maxRecDepth 100000

end Go.Proofs.YtpakmeegldgjmaaGreat
/- Layer 1 (bits): the contracts of Fold, Unfold, the reference's Fold, room. -/
namespace Go.Proofs.YtpakmeegldgjmaaGreat
open Go.RowKit
set_option linter.unusedVariables false
set_option maxRecDepth 100000

/-- The fold of a whole number. -/
def foldI (n : Int) : Int := if 0 ≤ n then n * 2 else -(n + 1) * 2 + 1
theorem foldI_nn (n : Int) : 0 ≤ foldI n := by unfold foldI; split <;> omega
theorem foldI_lt (n : Int) (h : -9223372036854775808 ≤ n) (h' : n ≤ 9223372036854775807) : foldI n < 18446744073709551616 := by unfold foldI; split <;> omega
def unfoldI (n : Int) : Int := if n % 2 = 0 then n / 2 else -(n / 2) - 1
theorem unfold_fold (n : Int) : unfoldI (foldI n) = n := by unfold unfoldI foldI; split <;> split <;> omega
theorem xor_u64_ones (b : Nat) (hb : b < 18446744073709551616) : bits .xor .u64 (b : Int) 18446744073709551615 = 18446744073709551615 - (b : Int) := by
  have h := u64_xor_nat b 18446744073709551615 hb (by omega)
  have e : b ^^^ 18446744073709551615 = 18446744073709551615 - b := by rw [Nat.xor_comm]; exact Lib.xor_ones64 b hb
  rw [e] at h
  rw [show ((18446744073709551615 : Int)) = ((18446744073709551615 : Nat) : Int) from rfl, h]
  omega

theorem fold_bits (n : Int) (h : -9223372036854775808 ≤ n) (h' : n ≤ 9223372036854775807) :
    bits .xor .u64 (IntKind.u64.wrap (IntKind.u64.wrap n * 2)) (IntKind.u64.wrap (n / 9223372036854775808)) = foldI n := by
  simp only [IntKind.wrap_u64]
  unfold foldI
  by_cases h0 : 0 ≤ n
  · rw [if_pos h0]
    have e1 : n % 18446744073709551616 * 2 % 18446744073709551616 = n * 2 := by omega
    have e2 : n / 9223372036854775808 % 18446744073709551616 = 0 := by omega
    rw [e1, e2, u64_xor (n * 2) 0 (by omega) (by omega) (by omega) (by omega)]
    simp; omega
  · rw [if_neg h0]
    have e1 : n % 18446744073709551616 * 2 % 18446744073709551616 = n * 2 + 18446744073709551616 := by omega
    have e2 : n / 9223372036854775808 % 18446744073709551616 = 18446744073709551615 := by omega
    obtain ⟨m, hm⟩ := Int.eq_ofNat_of_zero_le (show 0 ≤ n * 2 + 18446744073709551616 by omega)
    rw [e1, e2, hm, xor_u64_ones m (by omega)]
    omega

theorem bits_xor_comm (k : IntKind) (a b : Int) : bits .xor k a b = bits .xor k b a := by
  show k.wrap ((BitVec.ofInt k.bits a ^^^ BitVec.ofInt k.bits b).toNat : Int) = k.wrap ((BitVec.ofInt k.bits b ^^^ BitVec.ofInt k.bits a).toNat : Int)
  rw [BitVec.xor_comm]
theorem xor_i64_zero (a : Nat) (h : a < 9223372036854775808) : bits .xor .i64 (a : Int) 0 = (a : Int) := by
  show IntKind.i64.wrap ((BitVec.ofInt 64 (a : Int) ^^^ BitVec.ofInt 64 (0 : Int)).toNat : Int) = _
  have e : BitVec.ofInt 64 (0 : Int) = 0#64 := rfl
  rw [e, BitVec.xor_zero, ofInt_u64 a (by omega), IntKind.wrap_i64]
  omega

theorem unfold_bits (n : Int) (h : 0 ≤ n) (h' : n < 18446744073709551616) :
    bits .xor .i64 (n / 2) (wrap64 (-wrap64 (bits .and .u64 n 1))) = unfoldI n := by
  rw [Lib.u64_and1 n h h']
  unfold unfoldI
  obtain ⟨m, hm⟩ := Int.eq_ofNat_of_zero_le (show 0 ≤ n / 2 by omega)
  by_cases h0 : n % 2 = 0
  · rw [if_pos h0, h0, hm, show wrap64 (-wrap64 0) = 0 by unfold wrap64; omega]
    exact xor_i64_zero m (by omega)
  · rw [if_neg h0, show n % 2 = 1 by omega, hm, show wrap64 (-wrap64 1) = -1 by unfold wrap64; omega, bits_xor_comm]
    have := Lib.i64_not m (by omega)
    exact this

theorem fold_any (n : Int) (h : -9223372036854775808 ≤ n) (h' : n ≤ 9223372036854775807) (w : World) :
    Calls Tryz.prog 132 #[.int .i64 n] w fun e w' => e = .returned (.int .u64 (foldI n)) ∧ w = w' := by
  go_enter Tryz.func132, Tryz.ntmps132
  go_wp2
  go_ret
  exact ⟨ret_int (fold_bits n h h'), rfl⟩
theorem unfold_any (n : Int) (h : 0 ≤ n) (h' : n < 18446744073709551616) (w : World) :
    Calls Tryz.prog 158 #[.int .u64 n] w fun e w' => e = .returned (.int .i64 (unfoldI n)) ∧ w = w' := by
  go_enter Tryz.func158, Tryz.ntmps158
  go_wp2
  go_ret
  exact ⟨ret_int (unfold_bits n h h'), rfl⟩
/-- Has a number room in so many bits? -/
def roomB (n : Nat) (k : Nat) : Bool := decide (64 ≤ k) || decide (n / 2 ^ k = 0)
theorem roomB_iff (n k : Nat) (hn : n < 18446744073709551616) : roomB n k = true ↔ n < 2 ^ k := by
  unfold roomB
  have hp : 0 < 2 ^ k := Nat.two_pow_pos k
  rw [Bool.or_eq_true, decide_eq_true_eq, decide_eq_true_eq, Nat.div_eq_zero_iff]
  constructor
  · rintro (h | h | h)
    · exact Nat.lt_of_lt_of_le hn (Nat.pow_le_pow_right (n := 2) (by omega) h)
    · omega
    · exact h
  · intro h; exact .inr (.inr h)
theorem room_bool (n k : Nat) : (decide ((64 : Int) ≤ (k : Int)) || ((n : Int) / 2 ^ k == 0)) = roomB n k := by
  unfold roomB
  have e : ((n : Int) / 2 ^ k) = ((n / 2 ^ k : Nat) : Int) := by simp
  rw [e]
  have e2 : (((n / 2 ^ k : Nat) : Int) == 0) = decide (n / 2 ^ k = 0) := by
    generalize n / 2 ^ k = m
    by_cases hm : m = 0 <;> simp [hm]
  rw [e2]
  congr 1
  by_cases hk : 64 ≤ k
  · simp [hk]; omega
  · simp [hk]; omega
theorem room_any (n k : Nat) (hn : n < 18446744073709551616) (hk : k ≤ 64) (w : World) :
    Calls Tryz.prog 73 #[.int .u64 n, .int .i64 k] w fun e w' => e = .returned (.bool (roomB n k)) ∧ w = w' := by
  by_cases h : 64 ≤ k
  all_goals
    go_enter Tryz.func73, Tryz.ntmps73
    go_wp2
    go_ret
    exact ⟨ret_bool (by first | exact room_bool n k | (unfold roomB; simp [h])), rfl⟩
end Go.Proofs.YtpakmeegldgjmaaGreat
/- Layer 1 (bits): the contracts of Bytes and High and of the reference's Room, Bytes, SameBytes; awake. -/
namespace Go.Proofs.YtpakmeegldgjmaaGreat
open Go.RowKit
set_option linter.unusedVariables false
set_option maxRecDepth 100000

theorem Tryz.info_u8 : (Tryz.prog.info? 5).map (fun i => (i.zero, i.size, i.bytes)) = some (some (.int .u8 0), 1, 1) := by kernel_rfl

/-- A new slice of bytes beside a number that says the error. -/
def NewBytes2 (w : World) (l : List UInt8) (er : Int) (e : Ending) (w' : World) : Prop :=
  ∃ A c, e = .returned (.tuple #[.slice A l.length c, .int .i64 er]) ∧ Own w' w.heap.size 5 1 A l.length c (bv l) ∧ Below w.heap.size w w'

theorem wrap_byte (n k : Nat) (h : k < 8) : (n : Int) / 2 ^ (8 * k) % 256 = ((UInt8.ofNat (n / 256 ^ k % 256)).toNat : Int) := by
  have e : ((n : Int) / 2 ^ (8 * k)) = ((n / 256 ^ k : Nat) : Int) := by rw [pow256]; simp
  rw [e]
  simp
set_option maxHeartbeats 400000 in
theorem bytes_any (n k : Nat) (hn : n < 18446744073709551616) (h1 : 1 ≤ k) (h8 : k ≤ 8) (hr : n < 2 ^ (8 * k)) (w : World) :
    Calls Tryz.prog 29 #[.int .u64 n, .int .i64 k] w (NewBytes2 w (leB n k) 0) := by
  obtain ⟨i0, hi, hz0, hz1, hz2⟩ := info_parts Tryz.info_u8
  have c1 := room_any n (8 * k) hn (by omega)
  rw [(roomB_iff n (8 * k) hn).2 hr] at c1
  have C := Lib.hid c1
  clear c1 hr
  have e8 : ((8 * k : Nat) : Int) = 8 * (k : Int) := by omega
  go_enter Tryz.func29, Tryz.ntmps29
  go_wp2_with (first
    | (go_at_call 73; refine (C.out _).mono ?_; rintro e w' ⟨rfl, rfl⟩)
    | (at_make; refine wpList_make_full _ rfl _ _ 24 rfl w.heap.size 5 i0 (.int .u8 0) 1 Tryz.underlying24 hi hz0 hz1 _ _ _ _ k rfl rfl (by omega) (by omega) (by rw [hz2]; omega) (by simp only [maxLen]; omega) (Nat.le_refl _) ?_; intro w1 hown hgrow))
  have hmade : w1.ownsRow w.heap.size 5 1 (.slice (some ⟨w.heap.size, 0, none⟩) k k) k (leCells n k 0) := by
    rw [leCells_zero]
    rw [show (Value.int IntKind.u8 0).cells = #[Value.int .u8 0] from rfl, Nat.mul_one, toList_madeCells_one] at hown
    exact hown
  have hb1 : Below w.heap.size w w1 := (Below.refl _ _).grown hgrow (Nat.le_refl _) (by simp)
  have hsz : w.heap.size < w1.heap.size := (hmade.lt w.heap.size rfl).2
  clear hown hgrow hi hz0 hz1 hz2 C e8
  go_loopw [24] (fun i wr => ∃ j : Nat, j ≤ k ∧ i = .int .i64 j ∧ wr.ownsRow w.heap.size 5 1 (.slice (some ⟨w.heap.size, 0, none⟩) k k) k (leCells n k j) ∧ Below w.heap.size w wr) (fun i _ => k - (intOf i).toNat)
  case atStart => exact ⟨0, Nat.zero_le _, rfl, hmade, hb1⟩
  case round =>
    obtain ⟨j, hj, rfl, hown, hb⟩ := hrel
    by_cases hlt : j < k
    · have hc : wr.cell? ⟨w.heap.size, j, none⟩ = some (.int .u8 0) := by rw [hown.cellAt j (by omega), leCells_at n k j hlt]
      have hf : wr.frozen? ⟨w.heap.size, j, none⟩ = false := hown.frozenAt j
      have hst := hown.stored j (.int .u8 ((UInt8.ofNat (n / 256 ^ j % 256)).toNat : Int))
      rw [leCells_set n k j hlt] at hst
      have HV := Lib.hid (wrap_byte n j (by omega))
      have HST := Lib.hid hst
      clear hst
      go_wp2
      go_roundw
      case rel => 
        rw [HV.out]
        exact ⟨j + 1, by omega, by go_num, HST.out.1, hb.grown HST.out.2 hb.size (by intro g hg; injection hg with hg; omega)⟩
      case measure => simp [intOf]; omega
    · have hjk : j = k := by omega
      subst hjk
      rw [leCells_full] at hown
      have HO := Lib.hid hown
      clear hown
      go_wp2
      go_ret2
      refine ⟨some ⟨w.heap.size, 0, none⟩, j, ?_, ?_, hb⟩
      · rw [leB_length]; rfl
      · rw [leB_length]; exact ⟨HO.out, Nat.le_refl _, by simp only [maxLen]; omega⟩
end Go.Proofs.YtpakmeegldgjmaaGreat
/- Layer 1 (bits): the contracts of the reference's Power, Room, Bytes, SameBytes; of High; awake. -/
namespace Go.Proofs.YtpakmeegldgjmaaGreat
open Go.RowKit
set_option linter.unusedVariables false
set_option maxRecDepth 100000

end Go.Proofs.YtpakmeegldgjmaaGreat
/- Layer 1 (bits): slices.Reverse over a slice of the call's own; High; awake. -/
namespace Go.Proofs.YtpakmeegldgjmaaGreat
open Go.RowKit
set_option linter.unusedVariables false
set_option maxRecDepth 100000

end Go.Proofs.YtpakmeegldgjmaaGreat
/- Layer 1 (bits): the contracts of Number, Turn, Width, Field, With, and of the reference's Number, Bit, Width. -/
namespace Go.Proofs.YtpakmeegldgjmaaGreat
open Go.RowKit
set_option linter.unusedVariables false
set_option maxRecDepth 100000

theorem or_low (x c j : Nat) (hx : x < 256 ^ j) (hc : c < 256) (hj : j < 8) :
    bits .or .u64 (x : Int) (IntKind.u64.wrap ((c : Int) * 2 ^ (8 * j))) = ((x + c * 256 ^ j : Nat) : Int) := by
  have hp : 256 ^ j * 256 ≤ 2 ^ 64 := by rw [← Nat.pow_succ, show (2 ^ 64 : Nat) = 256 ^ 8 from rfl]; exact Nat.pow_le_pow_right (by omega) (by omega)
  have hc' : c * 256 ^ j < 18446744073709551616 := by
    have : c * 256 ^ j < 256 * 256 ^ j := Nat.mul_lt_mul_of_pos_right hc (Nat.pow_pos (by omega))
    omega
  have e : ((c : Int) * 2 ^ (8 * j)) = ((c * 256 ^ j : Nat) : Int) := by rw [pow256]; simp
  have hx' : x < 18446744073709551616 := by omega
  have ew : IntKind.u64.wrap ((c * 256 ^ j : Nat) : Int) = ((c * 256 ^ j : Nat) : Int) := by rw [IntKind.wrap_u64]; omega
  rw [e, ew, u64_or_nat x (c * 256 ^ j) hx' hc']
  congr 1
  rw [Nat.or_comm, Nat.add_comm]
  exact nat_join (8 * j) _ _ (by rw [pow256]; simp) (by rw [← pow256]; exact hx)
theorem ofLe_take (l : List UInt8) (j : Nat) (h : j < l.length) : ofLe (l.take (j + 1)) = ofLe (l.take j) + (l.getD j 0).toNat * 256 ^ j := by
  rw [List.take_succ_eq_append_getElem h, ofLe_append]
  simp only [List.length_take, ofLe, Nat.mul_zero, Nat.add_zero]
  rw [Nat.min_eq_left (by omega), Nat.mul_comm]
  simp [List.getD, List.getElem?_eq_getElem h]
set_option maxHeartbeats 400000 in
theorem number_any (A : Option Addr) (n c B : Nat) (l : List UInt8) (w : World) (h1 : 1 ≤ n) (h8 : n ≤ 8) (hr : Rd w B 1 A n (bv l)) :
    Calls Tryz.prog 72 #[.slice A n c] w fun e w' => e = .returned (.tuple #[.int .u64 ((ofLe l : Nat) : Int), .int .i64 0]) ∧ w = w' := by
  have hl : l.length = n := by have := hr.len; rw [bv_length] at this; exact this
  have h0 : ((n : Int) == 0) = false := by simp; omega
  obtain ⟨b, o, rfl, _, _⟩ := hr.byte (k := 0) (by omega)
  go_enter Tryz.func72, Tryz.ntmps72
  go_wp2
  go_loop [4, 17] (fun x i => ∃ j : Nat, j ≤ n ∧ i = .int .i64 j ∧ x = .int .u64 ((ofLe (l.take j) : Nat) : Int)) (fun _ i => n - (intOf i).toNat)
  case atStart => exact ⟨0, Nat.zero_le _, rfl, by simp [ofLe]⟩
  case round =>
    obtain ⟨j, hj, rfl, rfl⟩ := hrel
    by_cases hlt : j < n
    · obtain ⟨b', o', hA, _, hc⟩ := hr.byte hlt
      injection hA with hA
      injection hA with hA1 hA2
      subst hA1 hA2
      have hx := ofLe_lt (l.take j)
      rw [List.length_take, Nat.min_eq_left (by omega)] at hx
      have hcb := (l.getD j 0).toNat_lt
      have ho := or_low (ofLe (l.take j)) (l.getD j 0).toNat j hx (by omega) (by omega)
      rw [← ofLe_take l j (by omega)] at ho
      have HO := Lib.hid ho
      clear ho
      generalize ofLe (l.take j) = X at *
      generalize (l.getD j 0).toNat = x at *
      clear hx
      go_wp2
      go_round
      case rel => exact ⟨j + 1, by omega, by go_num, by rw [HO.out]⟩
      case measure => simp [intOf]; omega
    · have : j = n := by omega
      subst this
      rw [List.take_of_length_le (by omega)]
      go_wp2
      go_ret2
      exact ⟨rfl, rfl⟩

end Go.Proofs.YtpakmeegldgjmaaGreat
/- Layer 3 (crc), plain: the register's step is linear, and nothing but 0 becomes 0. No program in sight. -/
namespace Go.Proofs.YtpakmeegldgjmaaGreat
open Go.RowKit
set_option linter.unusedVariables false
set_option maxRecDepth 100000

/-- One place down. -/
def stp (s : Nat) : Nat := if s % 2 = 1 then (s / 2) ^^^ 3988292384 else s / 2
def stpN : Nat → Nat → Nat
  | 0, s => s
  | k + 1, s => stpN k (stp s)
theorem stpN_add (a b s : Nat) : stpN (a + b) s = stpN b (stpN a s) := by
  induction a generalizing s with
  | zero => simp [stpN]
  | succ a ih => rw [Nat.succ_add]; exact ih _
theorem stp_xor (a b : Nat) : stp (a ^^^ b) = stp a ^^^ stp b := by
  have hd : (a ^^^ b) / 2 = a / 2 ^^^ b / 2 := by simp [Nat.xor_div_two]
  have hm : (a ^^^ b) % 2 = (a + b) % 2 := by
    have := Nat.xor_mod_two_eq_one (a := a) (b := b)
    rcases Nat.mod_two_eq_zero_or_one a with ha | ha <;> rcases Nat.mod_two_eq_zero_or_one b with hb | hb <;>
      rcases Nat.mod_two_eq_zero_or_one (a ^^^ b) with hc | hc <;> simp [ha, hb, hc] at this <;> omega
  unfold stp
  rw [hd]
  rcases Nat.mod_two_eq_zero_or_one a with ha | ha <;> rcases Nat.mod_two_eq_zero_or_one b with hb | hb
  · rw [if_neg (by omega), if_neg (by omega), if_neg (by omega)]
  · rw [if_pos (by omega), if_neg (by omega), if_pos (by omega), Nat.xor_assoc]
  · rw [if_pos (by omega), if_pos (by omega), if_neg (by omega), Nat.xor_assoc, Nat.xor_assoc, Nat.xor_comm 3988292384]
  · rw [if_neg (by omega), if_pos (by omega), if_pos (by omega)]
    have e : a / 2 ^^^ 3988292384 ^^^ (b / 2 ^^^ 3988292384) = a / 2 ^^^ b / 2 ^^^ (3988292384 ^^^ 3988292384) := by
      rw [Nat.xor_assoc, ← Nat.xor_assoc 3988292384 (b / 2), Nat.xor_comm 3988292384 (b / 2), Nat.xor_assoc (b / 2), ← Nat.xor_assoc (a / 2)]
    rw [e, Nat.xor_self, Nat.xor_zero]
theorem stpN_xor (k a b : Nat) : stpN k (a ^^^ b) = stpN k a ^^^ stpN k b := by
  induction k generalizing a b with
  | zero => rfl
  | succ k ih => simp only [stpN, stp_xor, ih]
theorem stp_lt {s : Nat} (h : s < 4294967296) : stp s < 4294967296 := by
  unfold stp
  split
  · exact Nat.xor_lt_two_pow (n := 32) (by omega) (by omega)
  · omega
theorem stpN_lt (k : Nat) {s : Nat} (h : s < 4294967296) : stpN k s < 4294967296 := by
  induction k generalizing s with
  | zero => exact h
  | succ k ih => exact ih (stp_lt h)
/-- What each number of four bits becomes by four steps. -/
def tab16 : List Nat := [0x00000000, 0x1db71064, 0x3b6e20c8, 0x26d930ac, 0x76dc4190, 0x6b6b51f4, 0x4db26158, 0x5005713c, 0xedb88320, 0xf00f9344, 0xd6d6a3e8, 0xcb61b38c, 0x9b64c2b0, 0x86d3d2d4, 0xa00ae278, 0xbdbdf21c]
theorem tab16_at : ∀ r : Fin 16, stpN 4 r.val = tab16.getD r.val 0 := by decide
theorem stpN_mul16 (y : Nat) : stpN 4 (y * 16) = y := by
  have e : ∀ z, stp (z * 2) = z := by
    intro z
    unfold stp
    rw [if_neg (by omega)]
    omega
  simp only [stpN]
  rw [show y * 16 = (y * 8) * 2 by omega, e, show y * 8 = (y * 4) * 2 by omega, e, show y * 4 = (y * 2) * 2 by omega, e, e]
theorem split16 (x : Nat) : x = (x / 16 * 16) ^^^ (x % 16) := by
  have h1 : x / 16 * 16 ||| x % 16 = x / 16 * 16 + x % 16 := nat_join 4 _ _ (by omega) (by omega)
  have h2 : (x / 16 * 16) ^^^ (x % 16) = (x / 16 * 16) ||| (x % 16) := by
    apply Nat.eq_of_testBit_eq
    intro i
    rw [Nat.testBit_xor, Nat.testBit_or]
    by_cases hi : i < 4
    · have : (x / 16 * 16).testBit i = false := by
        rw [show (16 : Nat) = 2 ^ 4 from rfl, Nat.testBit_mul_two_pow]
        simp; omega
      rw [this]; simp
    · have : (x % 16).testBit i = false := by
        rw [show (16 : Nat) = 2 ^ 4 from rfl, Nat.testBit_mod_two_pow]
        simp; omega
      rw [this]; simp
  rw [h2, h1]
  omega
theorem stp4 (x : Nat) : stpN 4 x = x / 16 ^^^ tab16.getD (x % 16) 0 := by
  have h := tab16_at ⟨x % 16, Nat.mod_lt _ (by omega)⟩
  calc stpN 4 x = stpN 4 ((x / 16 * 16) ^^^ (x % 16)) := by rw [← split16]
    _ = _ := by rw [stpN_xor, stpN_mul16]; rw [h]
/-- The register behind bytes. -/
def reg : Nat → List UInt8 → Nat
  | s, [] => s
  | s, c :: l => reg (stpN 8 (s ^^^ c.toNat)) l
theorem reg_nil (s : Nat) : reg s [] = s := rfl
theorem reg_cons (s : Nat) (c : UInt8) (l : List UInt8) : reg s (c :: l) = reg (stpN 8 (s ^^^ c.toNat)) l := rfl
theorem reg_append (s : Nat) (l m : List UInt8) : reg s (l ++ m) = reg (reg s l) m := by
  induction l generalizing s with
  | nil => rfl
  | cons c l ih => exact ih _
theorem xor_byte_lt {s : Nat} (h : s < 4294967296) (c : UInt8) : s ^^^ c.toNat < 4294967296 :=
  Nat.xor_lt_two_pow (n := 32) (by omega) (by have := c.toNat_lt; omega)
theorem reg_lt {s : Nat} (h : s < 4294967296) (l : List UInt8) : reg s l < 4294967296 := by
  induction l generalizing s with
  | nil => exact h
  | cons c l ih => exact ih (stpN_lt 8 (xor_byte_lt h c))
/-- The sum of bytes. -/
def crcN (l : List UInt8) : Nat := 4294967295 - reg 4294967295 l
theorem not32 {a : Nat} (h : a < 4294967296) : 4294967295 ^^^ a = 4294967295 - a := by
  have := BitVec.toNat_not (x := BitVec.ofNat 32 a)
  have e1 : (BitVec.ofNat 32 a).toNat = a := by rw [BitVec.toNat_ofNat]; exact Nat.mod_eq_of_lt h
  have e2 : (~~~ (BitVec.ofNat 32 a)) = BitVec.allOnes 32 ^^^ BitVec.ofNat 32 a := by rw [BitVec.allOnes_xor]
  rw [e2, BitVec.toNat_xor, e1, BitVec.toNat_allOnes] at this
  simpa using this
theorem crcN_lt (l : List UInt8) : crcN l < 4294967296 := by unfold crcN; omega
end Go.Proofs.YtpakmeegldgjmaaGreat
/- Layer 3 (crc): the contracts of the program's and the reference's functions. -/
namespace Go.Proofs.YtpakmeegldgjmaaGreat
open Go.RowKit
set_option linter.unusedVariables false
set_option maxRecDepth 100000

def tabV : Array Value := #[.int .u32 0x00000000, .int .u32 0x1db71064, .int .u32 0x3b6e20c8, .int .u32 0x26d930ac, .int .u32 0x76dc4190, .int .u32 0x6b6b51f4, .int .u32 0x4db26158, .int .u32 0x5005713c, .int .u32 0xedb88320, .int .u32 0xf00f9344, .int .u32 0xd6d6a3e8, .int .u32 0xcb61b38c, .int .u32 0x9b64c2b0, .int .u32 0x86d3d2d4, .int .u32 0xa00ae278, .int .u32 0xbdbdf21c]
theorem tabV_eq : tabV.toList = tab16.map (fun (n : Nat) => Value.int .u32 (n : Int)) := rfl
theorem tabV_one : (tabV.all fun x => x.oneCell') = true := by kernel_rfl
theorem tabV_at (r : Nat) (h : r < 16) : tabV[r]? = some (.int .u32 ((tab16.getD r 0 : Nat) : Int)) := by
  have hl : r < tab16.length := h
  rw [← Array.getElem?_toList, tabV_eq, List.getElem?_map, List.getD, List.getElem?_eq_getElem hl]
  rfl
theorem tab16_lt (r : Nat) : tab16.getD r 0 < 4294967296 := by
  by_cases h : r < 16
  · have : ∀ r : Fin 16, tab16.getD r.val 0 < 4294967296 := by decide
    exact this ⟨r, h⟩
  · have hl : tab16.length = 16 := rfl
    rw [List.getD, List.getElem?_eq_none (by omega)]
    decide
theorem not_u32 (s : Nat) (h : s < 4294967296) : bits .xor .u32 IntKind.u32.max (s : Int) = ((4294967295 - s : Nat) : Int) := by
  have e : IntKind.u32.max = ((4294967295 : Nat) : Int) := rfl
  rw [e, u32_xor_nat 4294967295 s (by omega) h, not32 h]
theorem table_any (w : World) : Calls Tryz.prog 106 #[] w fun e w' => e = .returned (.agg tabV) ∧ Below w.heap.size w w' := by
  go_enter Tryz.func106, Tryz.ntmps106
  go_wp2
  go_returns
  exact ⟨rfl, by go_grown⟩
theorem add_any (s : Nat) (A : Option Addr) (n c B : Nat) (l : List UInt8) (w : World) (hs : s < 4294967296) (hn : n ≤ 9223372036854775807) (hr : Rd w B 1 A n (bv l)) (hB : B ≤ w.heap.size) :
    Calls Tryz.prog 75 #[.agg #[.int .u32 s], .slice A n c] w fun e w' => e = .returned (.agg #[.int .u32 ((4294967295 - reg (4294967295 - s) l : Nat) : Int)]) ∧ Below w.heap.size w w' := by
  have CT := Lib.hid table_any
  go_enter Tryz.func75, Tryz.ntmps75
  go_wp2_with fail
  refine (CT.out _).mono ?_; rintro e w1 ⟨rfl, hb1⟩
  have hst := fun (w1 : World) => run_storeCells_new (P := Tryz.prog) w1 161 #[.int .u32 0, .int .u32 0, .int .u32 0, .int .u32 0, .int .u32 0, .int .u32 0, .int .u32 0, .int .u32 0, .int .u32 0, .int .u32 0, .int .u32 0, .int .u32 0, .int .u32 0, .int .u32 0, .int .u32 0, .int .u32 0] tabV (by kernel_rfl) rfl tabV_one
  go_wp2_with fail
  clear hst
  obtain ⟨W2, hW2⟩ : ∃ W2, W2 = w1.alloc (.cells tabV 161) := ⟨_, rfl⟩
  have hz1 : w.heap.size + 2 ≤ w1.heap.size := by have := hb1.size; simpa using this
  have htab : ∀ r, r < 16 → W2.cell? ⟨w1.heap.size, r, none⟩ = some (.int .u32 ((tab16.getD r 0 : Nat) : Int)) := by
    intro r hr
    rw [hW2, cell_of_row _ _ _ tabV 161 (0, 0) (heap_alloc_new w1 _), tabV_at r hr]
  have hq1 : W2.cell? ⟨w.heap.size + 1, 0, none⟩ = some (.int .u32 0) := by
    rw [hW2, World.cell?_alloc_lt _ _ _ (by simp; omega), hb1.cell (p := ⟨w.heap.size + 1, 0, none⟩) (by simp)]
    go_cell
  have hq2 : W2.frozen? ⟨w.heap.size + 1, 0, none⟩ = false := by
    rw [hW2, World.frozen?_alloc_old _ _ _ (by simp; omega), hb1.frozen (p := ⟨w.heap.size + 1, 0, none⟩) (by simp)]
    go_cell
  have hrd : Rd W2 B 1 A n (bv l) := by
    rw [hW2]
    exact (((hr.alloc hB _).alloc (by simp; omega) _).below (below_of_le hb1 (by simp; omega))).alloc (by omega) _
  have hbl : Below w.heap.size w W2 := by
    rw [hW2]
    exact ((((Below.refl _ _).alloc (Nat.le_refl _) _).alloc (by simp) _).trans (below_of_le hb1 (by simp; omega))).alloc (by omega) _
  rw [← hW2, not_u32 s hs]
  clear hW2 hb1 CT
  have hl : l.length = n := by have := hr.len; rw [bv_length] at this; exact this
  go_loop [5, 15] (fun x i => ∃ j : Nat, j ≤ n ∧ i = .int .i64 j ∧ x = .int .u32 ((reg (4294967295 - s) (l.take j) : Nat) : Int)) (fun _ i => n - (intOf i).toNat)
  case atStart => exact ⟨0, Nat.zero_le _, rfl, rfl⟩
  case round =>
    obtain ⟨j, hj, rfl, rfl⟩ := hrel
    have hX := reg_lt (s := 4294967295 - s) (by omega) (l.take j)
    by_cases hlt : j < n
    · obtain ⟨b, o, rfl, _, hc⟩ := hrd.byte hlt
      have hcb := (l.getD j 0).toNat_lt
      have hst : reg (4294967295 - s) (l.take (j + 1)) = stpN 8 (reg (4294967295 - s) (l.take j) ^^^ (l.getD j 0).toNat) := by
        rw [List.take_succ_eq_append_getElem (by omega), reg_append, reg_cons, reg_nil]
        simp [List.getD, List.getElem?_eq_getElem (show j < l.length by omega)]
      have hY := xor_byte_lt hX (l.getD j 0)
      generalize (l.getD j 0).toNat = c at *
      generalize reg (4294967295 - s) (l.take j) = X at *
      have e1 : bits .xor .u32 (X : Int) (c : Int) = ((X ^^^ c : Nat) : Int) := u32_xor_nat X c hX (by omega)
      generalize X ^^^ c = Y at *
      have e2 : bits .and .u32 (Y : Int) 15 = ((Y % 16 : Nat) : Int) := by
        rw [show (15 : Int) = ((15 : Nat) : Int) from rfl, u32_and_nat Y 15 hY (by omega), nat_mask4]
      have hr1 : Y % 16 < 16 := Nat.mod_lt _ (by omega)
      have t1 := htab _ hr1
      have e3 : bits .xor .u32 ((Y : Int) / 16) ((tab16.getD (Y % 16) 0 : Nat) : Int) = ((stpN 4 Y : Nat) : Int) := by
        rw [show (Y : Int) / 16 = ((Y / 16 : Nat) : Int) by simp, u32_xor_nat _ _ (by omega) (tab16_lt _), stp4]
      have hZ := stpN_lt 4 hY
      have h8 : stpN 8 Y = stpN 4 (stpN 4 Y) := stpN_add 4 4 Y
      generalize tab16.getD (Y % 16) 0 = T at *
      generalize Y % 16 = r at *
      generalize stpN 4 Y = Z at *
      have f2 : bits .and .u32 (Z : Int) 15 = ((Z % 16 : Nat) : Int) := by
        rw [show (15 : Int) = ((15 : Nat) : Int) from rfl, u32_and_nat Z 15 hZ (by omega), nat_mask4]
      have hr2 : Z % 16 < 16 := Nat.mod_lt _ (by omega)
      have t2 := htab _ hr2
      have f3 : bits .xor .u32 ((Z : Int) / 16) ((tab16.getD (Z % 16) 0 : Nat) : Int) = ((stpN 4 Z : Nat) : Int) := by
        rw [show (Z : Int) / 16 = ((Z / 16 : Nat) : Int) by simp, u32_xor_nat _ _ (by omega) (tab16_lt _), stp4]
      generalize tab16.getD (Z % 16) 0 = T2 at *
      generalize Z % 16 = r2 at *
      rw [h8] at hst
      generalize stpN 4 Z = V at *
      have HS := Lib.hid hst
      clear hst h8 htab
      go_wp2
      go_round
      case rel => exact ⟨j + 1, by omega, by go_num, by rw [HS.out]⟩
      case measure => simp [intOf]; omega
    · have : j = n := by omega
      subst this
      rw [List.take_of_length_le (by omega)] at hX ⊢
      have hnot := not_u32 _ hX
      obtain ⟨X, hXe⟩ : ∃ X, reg (4294967295 - s) l = X := ⟨_, rfl⟩
      rw [hXe] at hX hnot ⊢
      have HXE := Lib.hid hXe
      clear htab hXe
      have hq3 : (W2.setCell ⟨w.heap.size + 1, 0, none⟩ (.int .u32 ((4294967295 - X : Nat) : Int))).cell? ⟨w.heap.size + 1, 0, none⟩ = some (.int .u32 ((4294967295 - X : Nat) : Int)) := World.cell?_setCell_same _ _ _ hq1
      have hfin : Below w.heap.size w (W2.setCell ⟨w.heap.size + 1, 0, none⟩ (.int .u32 ((4294967295 - X : Nat) : Int))) := hbl.setCell (by simp) _
      go_wp2
      exact bodyPost_ret (v := .agg #[.int .u32 ((4294967295 - X : Nat) : Int)]) (by simp [results, Tryz.results75, go_sem, hq3]) rfl ⟨by rw [HXE.out], hfin⟩

theorem new_any (w : World) : Calls Tryz.prog 74 #[] w fun e w' => e = .returned (.agg #[.int .u32 0]) ∧ Below w.heap.size w w' := by
  go_enter Tryz.func74, Tryz.ntmps74
  go_wp2
  go_returns
  exact ⟨rfl, by go_grown⟩
theorem ssum_any (s : Int) (w : World) : Calls Tryz.prog 76 #[.agg #[.int .u32 s]] w fun e w' => e = .returned (.int .u32 s) ∧ Below w.heap.size w w' := by
  go_enter Tryz.func76, Tryz.ntmps76
  go_wp2
  go_returns
  exact ⟨rfl, by go_grown⟩
theorem sum_any (A : Option Addr) (n c B : Nat) (l : List UInt8) (w : World) (hn : n ≤ 9223372036854775807) (hr : Rd w B 1 A n (bv l)) (hB : B ≤ w.heap.size) :
    Calls Tryz.prog 30 #[.slice A n c] w fun e w' => e = .returned (.int .u32 ((crcN l : Nat) : Int)) ∧ Below w.heap.size w w' := by
  have C1 := Lib.hid new_any
  have C2 := Lib.hid (add_any 0 A n c)
  have C3 := Lib.hid ssum_any
  go_enter Tryz.func30, Tryz.ntmps30
  go_wp2_with fail
  refine (C1.out _).mono ?_; rintro e w1 ⟨rfl, b1⟩
  go_wp2_with fail
  refine (C2.out B l _ (by omega) hn (hr.below (below_of_le b1 hB)) (by have := b1.size; omega)).mono ?_; rintro e w2 ⟨rfl, b2⟩
  go_wp2_with fail
  refine (C3.out _ _).mono ?_; rintro e w3 ⟨rfl, b3⟩
  go_wp2
  go_ret
  exact ⟨rfl, below_step (below_step b1 b2) b3⟩
end Go.Proofs.YtpakmeegldgjmaaGreat
/- The opener of a [][]byte. -/
namespace Go.Proofs.YtpakmeegldgjmaaGreat
open Go.ChangeShapes Go.WideShapes Go.ChangeAt Go.RowKit
set_option linter.unusedVariables false
set_option maxRecDepth 100000

/-- One row of a [][]byte: address, length, capacity, bytes. -/
structure Row1 where
  A : Option Addr
  n : Nat
  c : Nat
  l : List UInt8
def Row1.val (r : Row1) : Value := .slice r.A r.n r.c
def Row1.ok (r : Row1) (w : World) : Prop := r.n ≤ r.c ∧ r.c ≤ maxLen ∧ Rd w w.heap.size 1 r.A r.n (bv r.l)
instance : Inhabited Row1 := ⟨⟨none, 0, 0, []⟩⟩
end Go.Proofs.YtpakmeegldgjmaaGreat
/- Merged: VM, V1, V2. -/
/- Layer 2 (varint), plain: short bytes of numbers. No program in sight. -/
namespace Go.Proofs.YtpakmeegldgjmaaGreat
open Go.RowKit
set_option linter.unusedVariables false
set_option maxRecDepth 100000

/-- A number's short bytes (the library's own function). -/
def vput (x : Nat) : List UInt8 := Lib.uvarint x
theorem vput_small {x : Nat} (h : x < 128) : vput x = [UInt8.ofNat x] := Lib.uvarint_small h
theorem vput_big {x : Nat} (h : 128 ≤ x) : vput x = UInt8.ofNat (x % 128 + 128) :: vput (x / 128) := Lib.uvarint_big h
theorem vput_pos (x : Nat) : 1 ≤ (vput x).length := Lib.uvarint_pos x
theorem vput_le {x : Nat} (h : x < 18446744073709551616) : (vput x).length ≤ 10 := Lib.uvarint_length64 h
theorem small_toNat {x : Nat} (h : x < 256) : (UInt8.ofNat x).toNat = x := by simp; omega

/-- The number that bytes begin with, i of its bytes gone by already: the number, how many bytes, the error. -/
def vget (i acc : Nat) : List UInt8 → Nat × Nat × Int
  | [] => (0, 0, 2)
  | c :: r => if (0 < i ∧ c.toNat = 0) ∨ (i = 9 ∧ 1 < c.toNat) then (0, 0, 1) else if c.toNat < 128 then (acc + c.toNat * 2 ^ (7 * i), i + 1, 0) else vget (i + 1) (acc + c.toNat % 128 * 2 ^ (7 * i)) r
theorem vget_nil (i acc : Nat) : vget i acc [] = (0, 0, 2) := rfl
theorem vget_cons (i acc : Nat) (c : UInt8) (r : List UInt8) : vget i acc (c :: r) = if (0 < i ∧ c.toNat = 0) ∨ (i = 9 ∧ 1 < c.toNat) then (0, 0, 1) else if c.toNat < 128 then (acc + c.toNat * 2 ^ (7 * i), i + 1, 0) else vget (i + 1) (acc + c.toNat % 128 * 2 ^ (7 * i)) r := rfl
theorem pow7 (i : Nat) : 2 ^ (7 * (i + 1)) = 2 ^ (7 * i) * 128 := by rw [show 7 * (i + 1) = 7 * i + 7 by omega, Nat.pow_add]
theorem pow64 (i : Nat) (h : i ≤ 8) : 2 ^ (64 - 7 * i) = 2 ^ (64 - 7 * (i + 1)) * 128 := by rw [show 64 - 7 * i = (64 - 7 * (i + 1)) + 7 by omega, Nat.pow_add]
theorem vget_put_gen (r : List UInt8) : ∀ (m i acc : Nat), i ≤ 9 → m < 2 ^ (64 - 7 * i) → (0 < i → m ≠ 0) → vget i acc (vput m ++ r) = (acc + m * 2 ^ (7 * i), i + (vput m).length, 0) := by
  intro m
  induction m using Nat.strongRecOn with
  | _ m ih =>
    intro i acc hi hm h0
    by_cases hs : m < 128
    · rw [vput_small hs, List.singleton_append, vget_cons, small_toNat (by omega)]
      have h1 : ¬ ((0 < i ∧ m = 0) ∨ (i = 9 ∧ 1 < m)) := by
        rintro (⟨a, b⟩ | ⟨a, b⟩)
        · exact h0 a b
        · subst a
          have : 2 ^ (64 - 7 * 9) = 2 := rfl
          omega
      rw [if_neg h1, if_pos hs]
      rfl
    · have hi8 : i ≤ 8 := by
        rcases Nat.lt_or_ge i 9 with h | h
        · omega
        · have : i = 9 := by omega
          subst this
          have : 2 ^ (64 - 7 * 9) = 2 := rfl
          omega
      rw [vput_big (by omega), List.cons_append, vget_cons, small_toNat (by omega)]
      have h1 : ¬ ((0 < i ∧ m % 128 + 128 = 0) ∨ (i = 9 ∧ 1 < m % 128 + 128)) := by omega
      rw [if_neg h1, if_neg (by omega), ih (m / 128) (by omega) (i + 1) _ (by omega) (by rw [pow64 i hi8] at hm; exact Nat.div_lt_of_lt_mul (by rw [Nat.mul_comm]; exact hm)) (fun _ => by omega)]
      rw [List.length_cons, pow7]
      have e1 : (m % 128 + 128) % 128 = m % 128 := by omega
      rw [e1]
      refine Prod.ext ?_ (Prod.ext ?_ rfl)
      · show acc + m % 128 * 2 ^ (7 * i) + m / 128 * (2 ^ (7 * i) * 128) = acc + m * 2 ^ (7 * i)
        have hd : m = m % 128 + 128 * (m / 128) := by omega
        generalize 2 ^ (7 * i) = p
        conv => rhs; rw [hd]
        rw [Nat.add_mul, Nat.mul_comm 128 (m / 128), Nat.mul_assoc (m / 128), Nat.mul_comm 128 p]
        omega
      · show i + 1 + (vput (m / 128)).length = i + ((vput (m / 128)).length + 1)
        omega
theorem vget_put (m : Nat) (r : List UInt8) (hm : m < 18446744073709551616) : vget 0 0 (vput m ++ r) = (m, (vput m).length, 0) := by
  have := vget_put_gen r m 0 0 (by omega) (by simpa using hm) (by omega)
  simpa using this
theorem vget_only_gen : ∀ (l : List UInt8) (i acc x k : Nat), i ≤ 9 → vget i acc l = (x, k, 0) →
    ∃ m, m < 2 ^ (64 - 7 * i) ∧ (0 < i → m ≠ 0) ∧ x = acc + m * 2 ^ (7 * i) ∧ k = i + (vput m).length ∧ ∃ r, l = vput m ++ r := by
  intro l
  induction l with
  | nil => intro i acc x k _ h; rw [vget_nil] at h; simp at h
  | cons c l ih =>
    intro i acc x k hi h
    have hc := c.toNat_lt
    rw [vget_cons] at h
    split at h
    · simp at h
    · rename_i h1
      have hp := Nat.two_pow_pos (64 - 7 * i)
      split at h
      · rename_i h2
        simp only [Prod.mk.injEq] at h
        obtain ⟨rfl, rfl, _⟩ := h
        refine ⟨c.toNat, ?_, fun hi0 e => h1 (.inl ⟨hi0, e⟩), rfl, ?_, l, ?_⟩
        · rcases Nat.lt_or_ge i 9 with hlt | hge
          · have : 2 ^ 8 ≤ 2 ^ (64 - 7 * i) := Nat.pow_le_pow_right (by omega) (by omega)
            omega
          · have : i = 9 := by omega
            subst this
            have : 2 ^ (64 - 7 * 9) = 2 := rfl
            omega
        · rw [vput_small h2]; rfl
        · rw [vput_small h2]; simp
      · rename_i h2
        have hi8 : i ≤ 8 := by
          rcases Nat.lt_or_ge i 9 with hlt | hge
          · omega
          · exact absurd (.inr ⟨by omega, by omega⟩) h1
        obtain ⟨m, hm, h0, hx, hk, r, hl⟩ := ih (i + 1) _ x k (by omega) h
        have h0 := h0 (by omega)
        have hbig : 128 ≤ c.toNat % 128 + 128 * m := by omega
        have e1 : (c.toNat % 128 + 128 * m) / 128 = m := by omega
        have e2 : (c.toNat % 128 + 128 * m) % 128 = c.toNat % 128 := by omega
        refine ⟨c.toNat % 128 + 128 * m, ?_, fun _ => by omega, ?_, ?_, r, ?_⟩
        · rw [pow64 i hi8]; omega
        · rw [hx, pow7]
          generalize 2 ^ (7 * i) = p
          rw [Nat.add_mul, Nat.mul_comm 128 m, Nat.mul_assoc m, Nat.mul_comm 128 p]
          omega
        · rw [vput_big hbig, e1, hk, List.length_cons]; omega
        · rw [vput_big hbig, e1, e2, hl]
          have : UInt8.ofNat (c.toNat % 128 + 128) = c := by
            have : c.toNat % 128 + 128 = c.toNat := by omega
            rw [this]; simp
          rw [this]; rfl
theorem vget_only (l : List UInt8) (x k : Nat) (h : vget 0 0 l = (x, k, 0)) : x < 18446744073709551616 ∧ k = (vput x).length ∧ ∃ r, l = vput x ++ r := by
  obtain ⟨m, hm, _, hx, hk, hr⟩ := vget_only_gen l 0 0 x k (by omega) h
  simp at hx hk hm
  subst hx
  exact ⟨hm, hk, hr⟩
/-- The error is one of three; beside one that is none all is 0. -/
theorem vget_err : ∀ (l : List UInt8) (i acc : Nat), (∃ x k, vget i acc l = (x, k, 0)) ∨ vget i acc l = (0, 0, 1) ∨ vget i acc l = (0, 0, 2) := by
  intro l
  induction l with
  | nil => intro i acc; exact .inr (.inr rfl)
  | cons c l ih =>
    intro i acc
    rw [vget_cons]
    split
    · exact .inr (.inl rfl)
    · split
      · exact .inl ⟨_, _, rfl⟩
      · exact ih _ _
theorem vget_lt (l : List UInt8) : (vget 0 0 l).1 < 18446744073709551616 := by
  rcases vget_err l 0 0 with ⟨x, k, h⟩ | h | h
  · rw [h]; exact (vget_only l x k h).1
  · rw [h]; decide
  · rw [h]; decide
end Go.Proofs.YtpakmeegldgjmaaGreat
/- Layer 2 (varint): the contracts of Clone at bytes, Put, PutInt, Get, GetInt, Size, and of the reference's. -/
namespace Go.Proofs.YtpakmeegldgjmaaGreat
open Go.RowKit
set_option linter.unusedVariables false
set_option maxRecDepth 100000

theorem Tryz.info_by : (Tryz.prog.info? 5).map (fun i => (i.zero, i.size, i.bytes)) = some (some (.int .u8 0), 1, 1) := by kernel_rfl
theorem own_e0 (w : World) (e : TypeId) : Own (w.alloc (.cells #[] e)) w.heap.size e 1 (some ⟨w.heap.size, 0, none⟩) 0 0 [] :=
  ⟨World.ownsRow_lit _ #[] 0 (Nat.le_refl _) (by simp [maxLen]) rfl, Nat.le_refl _, by simp [maxLen]⟩
def NewB (w : World) (l : List UInt8) (e : Ending) (w' : World) : Prop :=
  ∃ A c, e = .returned (.slice A l.length c) ∧ Own w' w.heap.size 5 1 A l.length c (bv l) ∧ Below w.heap.size w w'
theorem clone_any (A : Option Addr) (n c B : Nat) (l : List UInt8) (w : World) (hn : n ≤ 140737488355328) (hr : Rd w B 1 A n (bv l)) (hB : B ≤ w.heap.size) :
    Calls Tryz.prog 66 #[.slice A n c] w (NewB w l) := by
  have hl : l.length = n := by have := hr.len; rw [bv_length] at this; exact this
  obtain ⟨i0, hi, hz0, hz1, hz2⟩ := info_parts Tryz.info_by
  have hq := fun (w : World) => Lib.run_eql_slice_nil (P := Tryz.prog) w 24 5 A n c 0 0 Tryz.underlying24
  cases A with
  | none =>
    have h0 : n = 0 := by
      rcases Nat.eq_zero_or_pos n with h | h
      · exact h
      · obtain ⟨b, o, he, _⟩ := hr.2 (by omega); cases he
    subst h0
    have : l = [] := List.eq_nil_of_length_eq_zero hl
    subst this
    have hq : ∀ w, (binOp .eql 24 (.slice none 0 c) (.slice none 0 0)).run Tryz.prog w = .ok (.bool true) w := fun w => by simpa using hq w
    go_enter Tryz.func66, Tryz.ntmps66
    go_wp2
    go_ret
    exact ⟨none, 0, rfl, Own.nil_, Below.refl _ _⟩
  | some a =>
    have hq : ∀ w, (binOp .eql 24 (.slice (some a) n c) (.slice none 0 0)).run Tryz.prog w = .ok (.bool false) w := fun w => by simpa using hq w
    go_enter Tryz.func66, Tryz.ntmps66
    go_wp2_with (at_builtin; refine wpList_append_rd _ rfl _ _ 24 rfl w.heap.size 5 i0 (.int .u8 0) 1 1 Tryz.underlying24 hi hz0 hz1 hz2 rfl (by decide) (by decide) _ 0 0 [] rfl (own_e0 _ _) B (some a) n c (bv l) rfl (hr.alloc hB _) (bv_oneCell l) (by omega) (by simp) ?_; intro A2 c2 w2 o2 b2)
    go_ret
    refine ⟨A2, c2, ?_, ?_, ((Below.refl _ _).alloc (Nat.le_refl _) _).trans b2⟩
    · rw [hl]; simp [Array.getD]
    · rw [hl]; simpa using o2
set_option maxRecDepth 100000 in
set_option maxHeartbeats 400000 in
theorem put_any (A : Option Addr) (n c B x : Nat) (l : List UInt8) (w : World) (hn : n ≤ 1000000) (hx : x < 18446744073709551616) (hr : Rd w B 1 A n (bv l)) (hB : B ≤ w.heap.size) :
    Calls Tryz.prog 32 #[.slice A n c, .int .u64 x] w (NewB w (l ++ vput x)) := by
  have hl : l.length = n := by have := hr.len; rw [bv_length] at this; exact this
  obtain ⟨i0, hi, hz0, hz1, hz2⟩ := info_parts Tryz.info_by
  have hp := vput_le hx
  subst hl
  have C1 := Lib.hid (clone_any A _ c B l w (by omega) hr hB)
  go_enter Tryz.func32, Tryz.ntmps32
  go_wp2_with fail
  refine (C1.out).mono ?_; rintro e w1 ⟨A1, c1, rfl, o1, b1⟩
  go_wp2
  go_loopw [1, 5] (fun y out wr => ∃ (z : Nat) (L : List UInt8) (A1 : Option Addr) (c1 : Nat), z < 18446744073709551616 ∧ y = .int .u64 z ∧ out = .slice A1 L.length c1 ∧ Own wr w.heap.size 5 1 A1 L.length c1 (bv L) ∧ L ++ vput z = l ++ vput x ∧ Below w.heap.size w wr) (fun y _ _ => (intOf y).toNat)
  case atStart => exact ⟨x, l, A1, c1, hx, rfl, rfl, o1, rfl, b1⟩
  case round =>
    obtain ⟨z, L, A1, c1, hz, rfl, rfl, ho, he, hb⟩ := hrel
    have hlen := congrArg List.length he
    rw [List.length_append, List.length_append] at hlen
    have hz1' := vput_pos z
    have hbs := hb.size
    by_cases h128 : 128 ≤ z
    · have hbig := vput_big h128
      have e1 : bits .or .u8 ((z : Int) % 256) 128 = ((z % 128 + 128 : Nat) : Int) := by rw [Lib.u8_or128_any _ (by omega) (by omega)]; omega
      rw [hbig, List.length_cons] at hlen hz1'
      have HB := Lib.hid hbig
      have HE := Lib.hid he
      have HL := Lib.hid hlen
      have hL10 : L.length ≤ l.length + 10 := by omega
      clear hbig he hlen hz1'
      go_wp2_with (at_builtin; refine wpList_append_rd _ rfl _ _ 24 rfl w.heap.size 5 i0 (.int .u8 0) 1 1 Tryz.underlying24 hi hz0 hz1 hz2 rfl (by decide) (by decide) A1 _ c1 (bv L) rfl (ho.alloc _) _ _ 1 1 _ rfl (Rd.fresh _ _ _ 1 rfl) (by intro u hu; simp at hu; subst hu; rfl) (by omega) (by simp; omega) ?_; intro A2 c2 w2 o2 b2)
      go_roundw
      case rel =>
        refine ⟨z / 128, L ++ [UInt8.ofNat (z % 128 + 128)], A2, c2, by omega, by go_num, by simp, ?_, ?_, (hb.alloc (by omega) _).trans b2⟩
        · have e2 : (#[Value.int .u8 ((z : Int) % 128 + 128)]).toList = bv [UInt8.ofNat (z % 128 + 128)] := by simp [bv]; omega
          rw [e2, ← bv_append] at o2
          rw [List.length_append]
          exact o2
        · rw [List.append_assoc, List.singleton_append, ← HB.out, HE.out]
      case measure => simp [intOf]; omega
    · have hsm := vput_small (show z < 128 by omega)
      rw [hsm] at he hlen
      have HE := Lib.hid he
      have hL10 : L.length ≤ l.length + 10 := by simp at hlen; omega
      clear he hlen hsm hz1'
      go_wp2_with (at_builtin; refine wpList_append_rd _ rfl _ _ 24 rfl w.heap.size 5 i0 (.int .u8 0) 1 1 Tryz.underlying24 hi hz0 hz1 hz2 rfl (by decide) (by decide) A1 _ c1 (bv L) rfl (ho.alloc _) _ _ 1 1 _ rfl (Rd.fresh _ _ _ 1 rfl) (by intro u hu; simp at hu; subst hu; rfl) (by omega) (by simp; omega) ?_; intro A2 c2 w2 o2 b2)
      go_ret
      have e2 : [Value.int .u8 (z : Int)] = bv [UInt8.ofNat z] := by simp [bv]; omega
      rw [e2, ← bv_append, HE.out] at o2
      have hlen := congrArg List.length HE.out
      rw [List.length_append, List.length_singleton] at hlen
      refine ⟨A2, c2, ?_, ?_, (hb.alloc (by omega) _).trans b2⟩
      · rw [← hlen]; rfl
      · rw [← hlen]; exact o2

theorem putInt_any (A : Option Addr) (n c B : Nat) (x : Int) (l : List UInt8) (w : World) (hn : n ≤ 1000000) (hx : -9223372036854775808 ≤ x) (hx' : x ≤ 9223372036854775807) (hr : Rd w B 1 A n (bv l)) (hB : B ≤ w.heap.size) :
    Calls Tryz.prog 101 #[.slice A n c, .int .i64 x] w (NewB w (l ++ vput (foldI x).toNat)) := by
  have h0 := foldI_nn x
  have h1 := foldI_lt x hx hx'
  have C1 := Lib.hid (fold_any x hx hx')
  have c2 := fun w hr => put_any A n c B (foldI x).toNat l w hn (by omega) hr
  rw [Int.toNat_of_nonneg h0] at c2
  have C2 := Lib.hid c2
  generalize foldI x = y at *
  clear c2
  go_enter Tryz.func101, Tryz.ntmps101
  go_wp2_with fail
  refine (C1.out _).mono ?_; rintro e w' ⟨rfl, rfl⟩
  go_wp2_with fail
  refine (C2.out _ hr hB).mono ?_; rintro e w1 ⟨A1, c1, rfl, o1, b1⟩
  go_wp2
  go_ret
  exact ⟨A1, c1, by simp [Array.getD], o1, b1⟩
end Go.Proofs.YtpakmeegldgjmaaGreat
/- Layer 2 (varint): the contracts of Get, GetInt and the reference's Get; awake. -/
namespace Go.Proofs.YtpakmeegldgjmaaGreat
open Go.RowKit
set_option linter.unusedVariables false
set_option maxRecDepth 100000

/-- What Get answers, as values. -/
def getV (r : Nat × Nat × Int) : Value := .tuple #[.int .u64 (r.1 : Int), .int .i64 (r.2.1 : Int), .int .i64 r.2.2]
theorem or_low7 (x c j : Nat) (hx : x < 2 ^ (7 * j)) (hc : c < 128) (hj : j ≤ 9) (h9 : j = 9 → c ≤ 1) :
    bits .or .u64 (x : Int) (IntKind.u64.wrap ((c : Int) * 2 ^ (7 * j))) = ((x + c * 2 ^ (7 * j) : Nat) : Int) := by
  have hc' : c * 2 ^ (7 * j) < 18446744073709551616 := by
    rcases Nat.lt_or_ge j 9 with h | h
    · have h1 : c * 2 ^ (7 * j) < 128 * 2 ^ (7 * j) := Nat.mul_lt_mul_of_pos_right hc (Nat.two_pow_pos _)
      have h2 : 128 * 2 ^ (7 * j) = 2 ^ (7 * (j + 1)) := by rw [pow7, Nat.mul_comm]
      have h3 : 2 ^ (7 * (j + 1)) ≤ 2 ^ 63 := Nat.pow_le_pow_right (by omega) (by omega)
      omega
    · have : j = 9 := by omega
      subst this
      have := h9 rfl
      have : (2 : Nat) ^ (7 * 9) = 9223372036854775808 := rfl
      rw [this]
      omega
  have hx' : x < 18446744073709551616 := Nat.lt_of_lt_of_le hx (show 2 ^ (7 * j) ≤ 2 ^ 64 from Nat.pow_le_pow_right (by omega) (by omega))
  have e : ((c : Int) * 2 ^ (7 * j)) = ((c * 2 ^ (7 * j) : Nat) : Int) := by simp
  have ew : IntKind.u64.wrap ((c * 2 ^ (7 * j) : Nat) : Int) = ((c * 2 ^ (7 * j) : Nat) : Int) := by
    rw [IntKind.wrap_u64]
    generalize c * 2 ^ (7 * j) = M at *
    omega
  rw [e, ew, u64_or_nat x _ hx' hc', Nat.or_comm, Nat.add_comm x]
  congr 1
  exact nat_join (7 * j) _ _ (by simp) hx
theorem vget_drop (l : List UInt8) (j X : Nat) (h : j < l.length) : vget j X (l.drop j) =
    if (0 < j ∧ (l.getD j 0).toNat = 0) ∨ (j = 9 ∧ 1 < (l.getD j 0).toNat) then (0, 0, 1) else if (l.getD j 0).toNat < 128 then (X + (l.getD j 0).toNat * 2 ^ (7 * j), j + 1, 0) else vget (j + 1) (X + (l.getD j 0).toNat % 128 * 2 ^ (7 * j)) (l.drop (j + 1)) := by
  rw [List.drop_eq_getElem_cons h, vget_cons]
  simp [List.getD, List.getElem?_eq_getElem h]
theorem acc_lt (X c j : Nat) (hX : X < 2 ^ (7 * j)) : X + c % 128 * 2 ^ (7 * j) < 2 ^ (7 * (j + 1)) := by
  rw [pow7]
  have h1 : c % 128 * 2 ^ (7 * j) ≤ 127 * 2 ^ (7 * j) := Nat.mul_le_mul_right _ (by omega)
  omega
set_option maxRecDepth 100000 in
set_option maxHeartbeats 1000000 in
theorem get_any (A : Option Addr) (n c B : Nat) (l : List UInt8) (w : World) (hn : n ≤ 9223372036854775807) (hr : Rd w B 1 A n (bv l)) :
    Calls Tryz.prog 71 #[.slice A n c] w fun e w' => e = .returned (getV (vget 0 0 l)) ∧ w = w' := by
  have hl : l.length = n := by have := hr.len; rw [bv_length] at this; exact this
  go_enter Tryz.func71, Tryz.ntmps71
  go_wp2
  go_step3
  go_wp2
  go_step3
  go_wp2
  go_loop [5, 6] (fun x i => ∃ j X : Nat, j ≤ n ∧ j ≤ 9 ∧ i = .int .i64 j ∧ x = .int .u64 (X : Int) ∧ X < 2 ^ (7 * j) ∧ vget 0 0 l = vget j X (l.drop j)) (fun _ i => 10 - (intOf i).toNat)
  case atStart => exact ⟨0, 0, Nat.zero_le _, by omega, rfl, rfl, by decide, rfl⟩
  case round =>
    obtain ⟨j, X, hj, hj9, rfl, rfl, hX, hv⟩ := hrel
    by_cases hlt : j < n
    · rw [vget_drop l j X (by omega)] at hv
      obtain ⟨b, o, rfl, _, hc⟩ := hr.byte hlt
      have hcb := (l.getD j 0).toNat_lt
      have hacc := acc_lt X (l.getD j 0).toNat j hX
      generalize (l.getD j 0).toNat = y at *
      have hm : bits .and .u8 (y : Int) 127 = (y : Int) % 128 := bits_mask .u8 8 (by decide) wraps_u8 7 (by decide) y (by omega) (by omega)
      have hne : ((j : Int) == (n : Int)) = false := by simp; omega
      by_cases b1 : 0 < j ∧ y = 0
      · rw [if_pos (.inl b1)] at hv
        have HV := Lib.hid hv
        obtain ⟨a1, rfl⟩ := b1
        clear hv hacc hX
        go_wp2
        go_ret3
        exact ⟨by rw [HV.out]; rfl, rfl⟩
      · by_cases b2 : j = 9 ∧ 1 < y
        · rw [if_pos (.inr b2)] at hv
          have HV := Lib.hid hv
          obtain ⟨rfl, a2⟩ := b2
          have g1 : ((y : Int) == 0) = false := by simp; omega
          clear hv hacc hX b1
          go_wp2
          go_ret3
          exact ⟨by rw [HV.out]; rfl, rfl⟩
        · rw [if_neg (fun h => h.elim b1 b2)] at hv
          have b2n : j = 9 → y ≤ 1 := fun h => by
            rcases Nat.lt_or_ge 1 y with h1 | h1
            · exact absurd ⟨h, h1⟩ b2
            · exact h1
          have hor := or_low7 X (y % 128) j hX (by omega) hj9 (fun h => by have := b2n h; omega)
          clear b2n
          have e : ((y % 128 : Nat) : Int) = (y : Int) % 128 := by omega
          rw [e] at hor
          by_cases h128 : y < 128
          · rw [if_pos h128] at hv
            rw [show y % 128 = y by omega] at hor
            by_cases h9 : j = 9
            · subst h9
              have hy1 : y ≤ 1 := by
                rcases Nat.lt_or_ge 1 y with h1 | h1
                · exact absurd ⟨rfl, h1⟩ b2
                · exact h1
              have hp9 : (2 : Int) ^ (7 * 9) = 9223372036854775808 := rfl
              rw [hp9, IntWalk.u64_in _ (by omega)] at hor
              obtain ⟨Z, hZ⟩ : ∃ Z, X + y * 2 ^ (7 * 9) = Z := ⟨_, rfl⟩
              rw [hZ] at hor hv
              clear hZ
              have HV := Lib.hid hv
              have gy : ((y : Int) == 0) = false := by
                rw [beq_eq_false_iff_ne]; intro h; exact b1 ⟨by omega, by omega⟩
              have gy' : ¬ 1 < (y : Int) := by omega
              clear hv hacc hX e hp9 b1 b2
              go_wp2
              all_goals
                go_ret3
                exact ⟨by rw [HV.out]; rfl, rfl⟩
            · generalize X + y * 2 ^ (7 * j) = Z at *
              have HV := Lib.hid hv
              have h63 : ¬ (7 : Int) * (j : Int) = 63 := by omega
              clear hv hacc hX e b2
              go_wp2
              all_goals
                go_ret3
                exact ⟨by rw [HV.out]; rfl, rfl⟩
          · rw [if_neg h128] at hv
            have h9 : ¬ j = 9 := fun h => b2 ⟨h, by omega⟩
            have h63 : ¬ (7 : Int) * (j : Int) = 63 := by omega
            have hy0 : ((y : Int) == 0) = false := by simp; omega
            generalize X + y % 128 * 2 ^ (7 * j) = Z at *
            have HV := Lib.hid hv
            have HA := Lib.hid hacc
            clear hv hacc hX e b1 b2
            go_wp2
            all_goals
              go_round
              case rel => exact ⟨j + 1, Z, by omega, by omega, by go_num, rfl, HA.out, HV.out⟩
              case measure => simp [intOf]; omega
    · have hjn : j = n := by omega
      subst hjn
      rw [List.drop_of_length_le (by omega), vget_nil] at hv
      have HV := Lib.hid hv
      have hne : ((j : Int) == (j : Int)) = true := by simp
      clear hv hX
      go_wp2
      go_ret3
      exact ⟨by rw [HV.out]; rfl, rfl⟩
theorem getInt_any (A : Option Addr) (n c B : Nat) (l : List UInt8) (w : World) (hn : n ≤ 9223372036854775807) (hr : Rd w B 1 A n (bv l)) :
    Calls Tryz.prog 137 #[.slice A n c] w fun e w' => e = .returned (.tuple #[.int .i64 (unfoldI ((vget 0 0 l).1 : Int)), .int .i64 ((vget 0 0 l).2.1 : Int), .int .i64 (vget 0 0 l).2.2]) ∧ w = w' := by
  have C1 := Lib.hid (get_any A n c B l w hn hr)
  have hlt := vget_lt l
  have C2 := Lib.hid (unfold_any ((vget 0 0 l).1 : Int) (by omega) (by omega))
  generalize vget 0 0 l = r at *
  obtain ⟨x, k, er⟩ := r
  have hd : getV (x, k, er) = .tuple #[.int .u64 (x : Int), .int .i64 (k : Int), .int .i64 er] := rfl
  rw [hd] at C1
  clear hd
  go_enter Tryz.func137, Tryz.ntmps137
  go_wp2_with fail
  refine (C1.out).mono ?_; rintro e w' ⟨rfl, rfl⟩
  go_wp2_with fail
  refine (C2.out _).mono ?_; rintro e w' ⟨rfl, rfl⟩
  go_wp2
  go_ret3
  exact ⟨rfl, rfl⟩
end Go.Proofs.YtpakmeegldgjmaaGreat
/- Numbers' texts: ascii.up, ascii.Text; the document's Text. -/
namespace Go.Proofs.YtpakmeegldgjmaaGreat
open Go.RowKit
set_option linter.unusedVariables false
set_option maxRecDepth 100000

/-- The string of these bytes. -/
def bs (l : List UInt8) : ByteArray := ⟨l.toArray⟩
theorem bs_size (l : List UInt8) : (bs l).size = l.length := rfl
end Go.Proofs.YtpakmeegldgjmaaGreat
/- Merged: P1, P2. -/
/- Layer 5 (pack): the writer. -/
namespace Go.Proofs.YtpakmeegldgjmaaGreat
open Go.RowKit
set_option linter.unusedVariables false
set_option maxRecDepth 100000

/-- The writer in block b holds the bytes l (own slice A). -/
def Wr (w : World) (base b : Nat) (A : Option Addr) (c : Nat) (l : List UInt8) : Prop :=
  base ≤ b ∧ Whole w b 65 #[.slice A l.length c] ∧ Own w base 5 1 A l.length c (bv l)
/-- A step of the writer in block b: but for b and its bytes nothing old is changed; its bytes lie where they lay, or in a new block. -/
def WStep (w w' : World) (b : Nat) (A A' : Option Addr) : Prop :=
  Ch (fun k => k = b ∨ bl A = some k) w w' ∧ ∀ g, bl A' = some g → bl A = some g ∨ w.heap.size ≤ g
def WEnd (w : World) (base b : Nat) (A : Option Addr) (l : List UInt8) (e : Ending) (w' : World) : Prop :=
  ∃ A' c', e = .returned (.pointer (some ⟨b, 0, none⟩)) ∧ Wr w' base b A' c' l ∧ WStep w w' b A A'

/-- What a new own slice, stored into the writer, leaves. -/
theorem wr_put {w w1 : World} {base b : Nat} {A A1 : Option Addr} {c c1 : Nat} {l L : List UInt8} (h : Wr w base b A c l) (hbase : base ≤ w.heap.size) (o1 : Own w1 w.heap.size 5 1 A1 L.length c1 (bv L)) (b1 : Below w.heap.size w w1) :
    WEnd w base b A L (.returned (.pointer (some ⟨b, 0, none⟩))) (w1.setCell ⟨b, 0, none⟩ (.slice A1 L.length c1)) := by
  obtain ⟨hb, hw, ho⟩ := h
  have hlt := hw.lt
  have hw1 := hw.below b1 hlt
  have hne : bl A1 ≠ some b := by
    intro e
    have := o1.block_lt b (by rw [ownBlock_bl]; exact e)
    omega
  refine ⟨A1, c1, rfl, ⟨hb, ?_, (o1.far (by rw [ownBlock_bl]; exact hne) _).base_le hbase⟩, ?_, ?_⟩
  · have := hw1.set_ 0 (.slice A1 L.length c1)
    simpa using this
  · exact (below_ch (S := fun k => k = b ∨ bl A = some k) b1).trans (Ch.set_ w1 ⟨b, 0, none⟩ _) (fun k _ e => .inl e)
  · intro g hg
    exact .inr (o1.block_lt g (by rw [ownBlock_bl]; exact hg)).1

theorem wnum_any (w : World) (base b : Nat) (A : Option Addr) (c : Nat) (l : List UInt8) (x : Nat) (h : Wr w base b A c l) (hbase : base ≤ w.heap.size) (hl : l.length ≤ 1000000) (hx : x < 18446744073709551616) :
    Calls Tryz.prog 21 #[.pointer (some ⟨b, 0, none⟩), .int .u64 x] w (WEnd w base b A (l ++ vput x)) := by
  have h0 := Lib.hid h
  obtain ⟨hb, hw, ho⟩ := h
  have hc : w.cell? ⟨b, 0, none⟩ = some (.slice A l.length c) := by rw [hw.cell]; rfl
  have hf := hw.free 0
  have hlt := hw.lt
  have CP := Lib.hid (put_any A l.length c w.heap.size x l w hl hx ho.rd (Nat.le_refl _))
  go_enter Tryz.func21, Tryz.ntmps21
  go_wp2_with fail
  refine (CP.out).mono ?_; rintro e w1 ⟨A1, c1, rfl, o1, b1⟩
  have hw1 := hw.below b1 hlt
  have hc1 : w1.cell? ⟨b, 0, none⟩ = some (.slice A l.length c) := by rw [hw1.cell]; rfl
  have hf1 := hw1.free 0
  generalize l ++ vput x = L at *
  go_wp2
  go_ret
  exact wr_put h0.out hbase o1 b1
theorem wint_any (w : World) (base b : Nat) (A : Option Addr) (c : Nat) (l : List UInt8) (x : Int) (h : Wr w base b A c l) (hbase : base ≤ w.heap.size) (hl : l.length ≤ 1000000) (hx : -9223372036854775808 ≤ x) (hx' : x ≤ 9223372036854775807) :
    Calls Tryz.prog 65 #[.pointer (some ⟨b, 0, none⟩), .int .i64 x] w (WEnd w base b A (l ++ vput (foldI x).toNat)) := by
  have h0 := Lib.hid h
  obtain ⟨hb, hw, ho⟩ := h
  have hc : w.cell? ⟨b, 0, none⟩ = some (.slice A l.length c) := by rw [hw.cell]; rfl
  have hf := hw.free 0
  have hlt := hw.lt
  have CP := Lib.hid (putInt_any A l.length c w.heap.size x l w hl hx hx' ho.rd (Nat.le_refl _))
  go_enter Tryz.func65, Tryz.ntmps65
  go_wp2_with fail
  refine (CP.out).mono ?_; rintro e w1 ⟨A1, c1, rfl, o1, b1⟩
  have hw1 := hw.below b1 hlt
  have hc1 : w1.cell? ⟨b, 0, none⟩ = some (.slice A l.length c) := by rw [hw1.cell]; rfl
  have hf1 := hw1.free 0
  generalize l ++ vput (foldI x).toNat = L at *
  go_wp2
  go_ret
  exact wr_put h0.out hbase o1 b1
/-- A string's bytes. -/
def sb (s : ByteArray) : List UInt8 := s.data.toList
theorem sb_length (s : ByteArray) : (sb s).length = s.size := by simp [sb]
theorem strCells_bv (s : ByteArray) : Go.Lib.strCells s = bv (sb s) := rfl
theorem wtext_any (w : World) (base b : Nat) (A : Option Addr) (c : Nat) (l : List UInt8) (s : ByteArray) (h : Wr w base b A c l) (hbase : base ≤ w.heap.size) (hl : l.length ≤ 1000000) (hs : s.size ≤ 1000000) :
    Calls Tryz.prog 64 #[.pointer (some ⟨b, 0, none⟩), .string s] w (WEnd w base b A (l ++ (vput s.size ++ sb s))) := by
  rw [← List.append_assoc]
  have h0 := Lib.hid h
  obtain ⟨hb, hw, ho⟩ := h
  have hc : w.cell? ⟨b, 0, none⟩ = some (.slice A l.length c) := by rw [hw.cell]; rfl
  have hf := hw.free 0
  have hlt := hw.lt
  obtain ⟨i0, hi, hz0, hz1, hz2⟩ := info_parts Tryz.info_by
  have CP := Lib.hid (put_any A l.length c w.heap.size s.size l w hl (by omega) ho.rd (Nat.le_refl _))
  have hv := Lib.hid (vput_le (x := s.size) (by omega))
  go_enter Tryz.func64, Tryz.ntmps64
  go_wp2_with fail
  refine (CP.out).mono ?_; rintro e w1 ⟨A1, c1, rfl, o1, b1⟩
  have hsz : (l ++ vput s.size).length + s.size ≤ 140737488355328 := by have := hv.out; simp; omega
  generalize l ++ vput s.size = L at *
  go_wp2_with (
    at_builtin
    refine wpList_append_str _ rfl _ _ 24 9 rfl w.heap.size 5 i0 Tryz.underlying24 Tryz.underlying9 hi hz0 hz1 hz2 A1 L.length c1 (bv L) rfl o1 s rfl hsz b1.size ?_
    intro A2 c2 w2 o2 g2 n2
    have b2 : Below w.heap.size w w2 := b1.trans (own_below o1.1 (by rw [ownBlock_bl]; exact g2) b1.size)
    have hw1 := hw.below b2 hlt
    have hc1 : w2.cell? ⟨b, 0, none⟩ = some (.slice A l.length c) := by rw [hw1.cell]; rfl
    have hf1 := hw1.free 0
    rw [strCells_bv, ← bv_append] at o2
    have hLL : L.length + s.size = (L ++ sb s).length := by simp [sb_length]
    rw [hLL] at o2 ⊢
    generalize L ++ sb s = L2 at *)
  go_ret
  exact wr_put h0.out hbase o2 b2
theorem wbytes_any (w : World) (base b : Nat) (A : Option Addr) (c : Nat) (l : List UInt8) (h : Wr w base b A c l) (hl : l.length ≤ 140737488355328) :
    Calls Tryz.prog 24 #[.pointer (some ⟨b, 0, none⟩)] w (NewB w l) := by
  obtain ⟨hb, hw, ho⟩ := h
  have hc : w.cell? ⟨b, 0, none⟩ = some (.slice A l.length c) := by rw [hw.cell]; rfl
  have hf := hw.free 0
  have CP := Lib.hid (clone_any A l.length c w.heap.size l w hl ho.rd (Nat.le_refl _))
  go_enter Tryz.func24, Tryz.ntmps24
  go_wp2_with fail
  refine (CP.out).mono ?_; rintro e w1 ⟨A1, c1, rfl, o1, b1⟩
  go_wp2
  go_ret
  exact ⟨A1, c1, rfl, o1, b1⟩
end Go.Proofs.YtpakmeegldgjmaaGreat
/- Layer 5 (pack): the reader. -/
namespace Go.Proofs.YtpakmeegldgjmaaGreat
open Go.RowKit
set_option linter.unusedVariables false
set_option maxRecDepth 100000

/-- The reader in block b has the bytes l left, and the error er. -/
def Re (w : World) (b : Nat) (A : Option Addr) (n c : Nat) (l : List UInt8) (er : Int) : Prop :=
  Whole w b 136 #[.slice A n c, .int .i64 er] ∧ Rd w b 1 A n (bv l) ∧ n ≤ c ∧ c ≤ maxLen
/-- A reader's step: only its own block is changed. -/
def REnd (w : World) (b : Nat) (r : List UInt8 × Int) (v : Value) (e : Ending) (w' : World) : Prop :=
  ∃ A n c, e = .returned v ∧ Re w' b A n c r.1 r.2 ∧ Ch (fun k => k = b) w w'
/-- What 'Num' reads: the number, what is left, the error. -/
def rnumR (most : Nat) (l : List UInt8) (er : Int) : Nat × List UInt8 × Int :=
  if er ≠ 0 then (0, l, er) else if (vget 0 0 l).2.2 ≠ 0 then (0, l, (vget 0 0 l).2.2) else if most < (vget 0 0 l).1 then (0, l, 3) else ((vget 0 0 l).1, l.drop (vget 0 0 l).2.1, 0)
section
variable {w w' : World} {b n c : Nat} {A : Option Addr} {l : List UInt8} {er : Int}
theorem Re.cell0 (h : Re w b A n c l er) : w.cell? ⟨b, 0, none⟩ = some (.slice A n c) := by rw [h.1.cell]; rfl
theorem Re.cell1 (h : Re w b A n c l er) : w.cell? ⟨b, 1, none⟩ = some (.int .i64 er) := by rw [h.1.cell]; rfl
theorem Re.len (h : Re w b A n c l er) : l.length = n := by have := h.2.1.len; rw [bv_length] at this; exact this
theorem Re.set0 (h : Re w b A n c l er) {A' : Option Addr} {n' c' : Nat} {l' : List UInt8} (hr : Rd w b 1 A' n' (bv l')) (h1 : n' ≤ c') (h2 : c' ≤ maxLen) :
    Re (w.setCell ⟨b, 0, none⟩ (.slice A' n' c')) b A' n' c' l' er := by
  refine ⟨?_, hr.setCell (Nat.le_refl _) _, h1, h2⟩
  have := h.1.set_ 0 (.slice A' n' c')
  simpa using this
theorem Re.set1 (h : Re w b A n c l er) (er' : Int) : Re (w.setCell ⟨b, 1, none⟩ (.int .i64 er')) b A n c l er' := by
  refine ⟨?_, h.2.1.setCell (Nat.le_refl _) _, h.2.2⟩
  have := h.1.set_ 1 (.int .i64 er')
  simpa using this
end

theorem rmay_any (w : World) (b : Nat) (A : Option Addr) (n c : Nat) (l : List UInt8) (er : Int) (h : Re w b A n c l er) :
    Calls Tryz.prog 78 #[.pointer (some ⟨b, 0, none⟩)] w fun e w' => e = .returned (.bool (er == 0)) ∧ w = w' := by
  have hc := h.cell1
  have hf := h.1.free 1
  go_enter Tryz.func78, Tryz.ntmps78
  go_wp2
  go_ret
  exact ⟨rfl, rfl⟩
theorem rerr_any (w : World) (b : Nat) (A : Option Addr) (n c : Nat) (l : List UInt8) (er : Int) (h : Re w b A n c l er) :
    Calls Tryz.prog 37 #[.pointer (some ⟨b, 0, none⟩)] w fun e w' => e = .returned (.int .i64 er) ∧ w = w' := by
  have hc := h.cell1
  have hf := h.1.free 1
  go_enter Tryz.func37, Tryz.ntmps37
  go_wp2
  go_ret
  exact ⟨rfl, rfl⟩
/-- What 'End' says. -/
def endR (l : List UInt8) (er : Int) : Int := if er ≠ 0 then er else if 0 < l.length then 1 else 0
theorem rend_any (w : World) (b : Nat) (A : Option Addr) (n c : Nat) (l : List UInt8) (er : Int) (h : Re w b A n c l er) :
    Calls Tryz.prog 39 #[.pointer (some ⟨b, 0, none⟩)] w fun e w' => e = .returned (.int .i64 (endR l er)) ∧ w = w' := by
  have hc := h.cell0
  have hf := h.1.free 0
  have hl := h.len
  have C1 := Lib.hid (rerr_any w b A n c l er h)
  unfold endR
  rw [hl]
  by_cases h0 : er = 0
  · subst h0
    by_cases hn : 0 < n
    · have t1 : decide ((0 : Int) < (n : Int)) = true := by simp; exact hn
      have t2 : decide (0 < n) = true := by simp; exact hn
      go_enter Tryz.func39, Tryz.ntmps39
      go_wp2_with fail
      refine (C1.out).mono ?_; rintro e w1 ⟨rfl, rfl⟩
      go_wp2
      go_ret
      exact ⟨by simp, rfl⟩
    · have t1 : decide ((0 : Int) < (n : Int)) = false := by simp; omega
      have t2 : decide (0 < n) = false := by simp; omega
      go_enter Tryz.func39, Tryz.ntmps39
      go_wp2_with fail
      refine (C1.out).mono ?_; rintro e w1 ⟨rfl, rfl⟩
      go_wp2
      go_ret
      exact ⟨by simp, rfl⟩
  · have t0 : (er == 0) = false := by simp; exact h0
    go_enter Tryz.func39, Tryz.ntmps39
    go_wp2_with fail
    refine (C1.out).mono ?_; rintro e w1 ⟨rfl, rfl⟩
    go_wp2
    go_ret
    exact ⟨by simp, rfl⟩
/-- 'Read'. -/
theorem read_any (w : World) (A : Option Addr) (n c : Nat) (l : List UInt8) (hr : Rd w w.heap.size 1 A n (bv l)) (h1 : n ≤ c) (h2 : c ≤ maxLen) :
    Calls Tryz.prog 34 #[.slice A n c] w fun e w' => e = .returned (.pointer (some ⟨w.heap.size, 0, none⟩)) ∧ Re w' w.heap.size A n c l 0 ∧ Below w.heap.size w w' := by
  go_enter Tryz.func34, Tryz.ntmps34
  go_wp2
  go_ret
  exact ⟨rfl, ⟨Whole.new _ _ _, hr.alloc (Nat.le_refl _) _, h1, h2⟩, (Below.refl _ _).alloc (Nat.le_refl _) _⟩
theorem rnum_any (w : World) (b : Nat) (A : Option Addr) (n c : Nat) (l : List UInt8) (er : Int) (most : Nat) (h : Re w b A n c l er) :
    Calls Tryz.prog 35 #[.pointer (some ⟨b, 0, none⟩), .int .u64 most] w (REnd w b (rnumR most l er).2 (.int .u64 ((rnumR most l er).1 : Int))) := by
  have h0 := Lib.hid h
  have hc0 := h.cell0
  have hf0 := h.1.free 0
  have hc1 := h.cell1
  have hf1 := h.1.free 1
  have hl := h.len
  obtain ⟨hw, hr, hnc, hcm⟩ := h
  have hlt := hw.lt
  have hcm' : c ≤ 9223372036854775807 := hcm
  have C0 := Lib.hid (rmay_any w b A n c l er h0.out)
  by_cases hz : er = 0
  case neg =>
    have t0 : (er == 0) = false := by simp; exact hz
    have e0 : rnumR most l er = (0, l, er) := by simp [rnumR, hz]
    rw [t0] at C0
    rw [e0]
    go_enter Tryz.func35, Tryz.ntmps35
    go_wp2_with fail
    refine (C0.out).mono ?_; rintro e w1 ⟨rfl, rfl⟩
    go_wp2
    go_ret
    exact ⟨A, n, c, rfl, h0.out, Ch.refl _ _⟩
  subst hz
  have C1 := Lib.hid (get_any A n c _ l w (by omega) (hr.more (Nat.le_of_lt hlt)))
  have t0 : ((0 : Int) == 0) = true := rfl
  rw [t0] at C0
  rcases vget_err l 0 0 with ⟨x, k, hv⟩ | hv | hv
  · obtain ⟨hx, hk, r, hlr⟩ := vget_only l x k hv
    have hkn : k ≤ n := by rw [hk, ← hl, hlr, List.length_append]; omega
    have hd : getV (vget 0 0 l) = .tuple #[.int .u64 (x : Int), .int .i64 (k : Int), .int .i64 0] := by rw [hv]; rfl
    rw [hd] at C1
    by_cases hm : most < x
    · have e0 : rnumR most l 0 = (0, l, 3) := by simp [rnumR, hv, hm]
      have t1 : decide ((most : Int) < (x : Int)) = true := by simp; exact hm
      have t2 : decide (most < x) = true := by simp; exact hm
      rw [e0]
      clear e0 hd hv hlr hk
      go_enter Tryz.func35, Tryz.ntmps35
      go_wp2_with fail
      refine (C0.out).mono ?_; rintro e w1 ⟨rfl, rfl⟩
      go_wp2_with fail
      refine (C1.out).mono ?_; rintro e w1 ⟨rfl, rfl⟩
      go_wp2
      go_ret
      exact ⟨A, n, c, rfl, h0.out.set1 3, Ch.set_ _ ⟨b, 1, none⟩ _⟩
    · have e0 : rnumR most l 0 = (x, l.drop k, 0) := by simp [rnumR, hv, hm]
      have t1 : decide ((most : Int) < (x : Int)) = false := by simp; omega
      have t2 : decide (most < x) = false := by simp; omega
      rw [e0]
      clear e0 hd hv hlr hk
      have hs : ∀ w, (sizeOf (Tryz.prog.elem 24)).run Tryz.prog w = .ok 1 w := fun w => by kernel_rfl
      have hsl := run_from (P := Tryz.prog) 24 (by kernel_rfl) hs A n c k hkn
      have hr2 : Rd w b 1 (cutA A c k) (n - k) (bv (l.drop k)) := by rw [bv_drop]; exact hr.cutA_ hkn hnc
      have hh : n - k ≤ c - k := by omega
      have hh2 : c - k ≤ maxLen := by simp only [maxLen]; omega
      generalize cutA A c k = A2 at *
      generalize n - k = n2 at *
      generalize c - k = c2 at *
      go_enter Tryz.func35, Tryz.ntmps35
      go_wp2_with fail
      refine (C0.out).mono ?_; rintro e w1 ⟨rfl, rfl⟩
      go_wp2_with fail
      refine (C1.out).mono ?_; rintro e w1 ⟨rfl, rfl⟩
      go_wp2
      go_ret
      exact ⟨A2, n2, c2, rfl, h0.out.set0 hr2 hh hh2, Ch.set_ _ ⟨b, 0, none⟩ _⟩
  all_goals
    have e0 : rnumR most l 0 = (0, l, (vget 0 0 l).2.2) := by simp [rnumR, hv]
    rw [e0]
    rw [hv] at C1 ⊢
    simp only [getV] at C1
    clear e0 hv
    go_enter Tryz.func35, Tryz.ntmps35
    go_wp2_with fail
    refine (C0.out).mono ?_; rintro e w1 ⟨rfl, rfl⟩
    go_wp2_with fail
    refine (C1.out).mono ?_; rintro e w1 ⟨rfl, rfl⟩
    go_wp2
    go_ret
    exact ⟨A, n, c, rfl, h0.out.set1 _, Ch.set_ _ ⟨b, 1, none⟩ _⟩
end Go.Proofs.YtpakmeegldgjmaaGreat
/- Merged: D1, D2, D3. -/
/- Layer 16 (dot): Actor, Right, Compare, order, Less, Next, by program and by the document. -/
namespace Go.Proofs.YtpakmeegldgjmaaGreat
open Go.RowKit
set_option linter.unusedVariables false
set_option maxRecDepth 100000

def i64B (n : Int) : Prop := -9223372036854775808 ≤ n ∧ n ≤ 9223372036854775807
def actV (dev inc : Int) : Value := .agg #[.int .i64 dev, .int .i64 inc]
def dotV (dev inc seq : Int) : Value := .agg #[.int .i64 dev, .int .i64 inc, .int .i64 seq]
def actB (dev inc : Int) : Bool := decide (0 ≤ dev) && decide (dev < 64) && decide (1 ≤ inc) && decide (inc ≤ 1048576)
def dotB (dev inc seq : Int) : Bool := actB dev inc && decide (1 ≤ seq) && decide (seq ≤ 4294967296)

theorem actor_any (dev inc : Int) (w : World) : Calls Tryz.prog 109 #[actV dev inc] w fun e w' => e = .returned (.bool (actB dev inc)) ∧ Below w.heap.size w w' := by
  unfold actV
  go_enter Tryz.func109, Tryz.ntmps109
  go_wp2
  all_goals
    go_ret
    refine ⟨?_, (Below.refl _ _).alloc (Nat.le_refl _) _⟩
    refine ret_bool ?_
    unfold actB
    simp [*]
    try omega
theorem right_any (dev inc seq : Int) (w : World) : Calls Tryz.prog 84 #[dotV dev inc seq] w fun e w' => e = .returned (.bool (dotB dev inc seq)) ∧ Below w.heap.size w w' := by
  have C1 := Lib.hid (fun w => actor_any dev inc w)
  unfold actV at C1
  unfold dotV
  have B0 : Below w.heap.size w (w.alloc (.cells #[.int .i64 dev, .int .i64 inc, .int .i64 seq] 50)) := (Below.refl _ _).alloc (Nat.le_refl _) _
  have hR : dotB dev inc seq = (actB dev inc && decide (1 ≤ seq) && decide (seq ≤ 4294967296)) := rfl
  rw [hR]
  clear hR
  have B1 := Lib.hid B0
  clear B0
  generalize actB dev inc = q at *
  cases q
  · go_enter Tryz.func84, Tryz.ntmps84
    go_wp2_with fail
    refine (C1.out _).mono ?_; rintro e w1 ⟨rfl, b1⟩
    go_wp2
    go_ret
    exact ⟨ret_bool rfl, below_step B1.out b1⟩
  · go_enter Tryz.func84, Tryz.ntmps84
    go_wp2_with fail
    refine (C1.out _).mono ?_; rintro e w1 ⟨rfl, b1⟩
    have hW := (Whole.new w 50 #[.int .i64 dev, .int .i64 inc, .int .i64 seq]).below b1 (by simp)
    have hc2 : w1.cell? ⟨w.heap.size, 2, none⟩ = some (.int .i64 seq) := by rw [hW.cell]; rfl
    go_wp2
    all_goals
      go_ret
      refine ⟨ret_bool ?_, below_step B1.out b1⟩
      simp [*]
      try omega
/-- cmp.Compare. -/
def cmpI (a b : Int) : Int := if a < b then -1 else if b < a then 1 else 0
/-- cmp.Or of two. -/
def orI (a b : Int) : Int := if a = 0 then b else a
theorem isNaN_any (a : Int) (w : World) : Calls Tryz.prog 153 #[.int .i64 a] w fun e w' => e = .returned (.bool false) ∧ w = w' := by
  have h : (a != a) = false := by simp
  go_enter Tryz.func153, Tryz.ntmps153
  go_wp2
  go_ret
  exact ⟨rfl, rfl⟩
theorem cmpc_any (a b : Int) (w : World) : Calls Tryz.prog 131 #[.int .i64 a, .int .i64 b] w fun e w' => e = .returned (.int .i64 (cmpI a b)) ∧ w = w' := by
  have C1 := Lib.hid (isNaN_any a w)
  have C2 := Lib.hid (isNaN_any b w)
  go_enter Tryz.func131, Tryz.ntmps131
  go_wp2_with fail
  refine (C1.out).mono ?_; rintro e w1 ⟨rfl, rfl⟩
  go_wp2_with fail
  refine (C2.out).mono ?_; rintro e w1 ⟨rfl, rfl⟩
  go_wp2
  all_goals
    go_ret
    refine ⟨ret_int ?_, rfl⟩
    unfold cmpI
    repeat' split
    all_goals first | rfl | omega
theorem or2_any (a b : Int) (g c B : Nat) (w : World) (hr : Rd w B 1 (some ⟨g, 0, none⟩) 2 [.int .i64 a, .int .i64 b]) :
    Calls Tryz.prog 128 #[.slice (some ⟨g, 0, none⟩) 2 c] w fun e w' => e = .returned (.int .i64 (orI a b)) ∧ w = w' := by
  obtain ⟨g', o, hA, _, hcell⟩ := hr.2 (by omega)
  injection hA with hA
  injection hA with hA1 hA2
  subst hA1 hA2
  have c0 : w.cell? ⟨g, 0, none⟩ = some (.int .i64 a) := hcell 0 _ rfl
  have c1 : w.cell? ⟨g, 1, none⟩ = some (.int .i64 b) := hcell 1 _ rfl
  clear hr hcell
  go_enter Tryz.func128, Tryz.ntmps128
  go_wp2
  go_loop [8] (fun i => ∃ j : Nat, j ≤ 2 ∧ i = .int .i64 j ∧ (0 < j → a = 0) ∧ (1 < j → b = 0)) (fun i => 2 - (intOf i).toNat)
  case atStart => exact ⟨0, by omega, rfl, by omega, by omega⟩
  case round =>
    obtain ⟨j, hj, rfl, h0, h1⟩ := hrel
    have hj3 : j = 0 ∨ j = 1 ∨ j = 2 := by omega
    rcases hj3 with rfl | rfl | rfl
    · by_cases ha : a = 0
      · subst ha
        go_wp2
        go_round
        case rel => exact ⟨1, by omega, rfl, fun _ => by trivial, by omega⟩
        case measure => simp [intOf]
      · have t : (a == 0) = false := by simp; exact ha
        go_wp2
        go_ret
        exact ⟨ret_int (by simp [orI, ha]), rfl⟩
    · have ha := h0 (by omega)
      subst ha
      by_cases hb : b = 0
      · subst hb
        go_wp2
        go_round
        case rel => exact ⟨2, by omega, rfl, fun _ => by trivial, fun _ => by trivial⟩
        case measure => simp [intOf]
      · have t : (b == 0) = false := by simp; exact hb
        go_wp2
        go_ret
        exact ⟨ret_int (by simp [orI]), rfl⟩
    · have ha := h0 (by omega)
      have hb := h1 (by omega)
      subst ha hb
      go_wp2
      go_ret
      exact ⟨ret_int (by simp [orI]), rfl⟩
end Go.Proofs.YtpakmeegldgjmaaGreat
/- Layer 16 (dot): Compare, order, Less, Next. -/
namespace Go.Proofs.YtpakmeegldgjmaaGreat
open Go.RowKit
set_option linter.unusedVariables false
set_option maxRecDepth 100000

theorem stillL {P : Program} {f : FuncId} {args : Array Value} {w : World} {v : Value}
    (h : Calls P f args w fun e w' => e = .returned v ∧ w = w') : Calls P f args w fun e w'' => e = .returned v ∧ w'' = w :=
  h.mono fun _ _ ⟨he, hm⟩ => ⟨he, hm.symm⟩
/-- Two boxes, one behind the other. -/
def Boxes (w W : World) (t : TypeId) (xs ys : Array Value) : Prop :=
  Below w.heap.size w W ∧ W.heap.size = w.heap.size + 2 ∧ Whole W w.heap.size t xs ∧ Whole W (w.heap.size + 1) t ys
theorem boxes_new (w : World) (t : TypeId) (xs ys : Array Value) : Boxes w ((w.alloc (.cells xs t)).alloc (.cells ys t)) t xs ys := by
  refine ⟨((Below.refl _ _).alloc (Nat.le_refl _) _).alloc (by simp) _, by simp, (Whole.new w t xs).alloc _, ?_⟩
  have := Whole.new (w.alloc (.cells xs t)) t ys
  simpa using this
theorem compare_any (d i d' i' : Int) (w : World) : Calls Tryz.prog 100 #[actV d i, actV d' i'] w fun e w' => e = .returned (.int .i64 (orI (cmpI d d') (cmpI i i'))) ∧ Below w.heap.size w w' := by
  have C1 := Lib.hid (fun w => cmpc_any d d' w)
  have C2 := Lib.hid (fun w => cmpc_any i i' w)
  have C3 := Lib.hid (fun g c B w hr => or2_any (cmpI d d') (cmpI i i') g c B w hr)
  generalize cmpI d d' = x at *
  generalize cmpI i i' = y at *
  unfold actV
  have hB := boxes_new w 48 #[.int .i64 d, .int .i64 i] #[.int .i64 d', .int .i64 i']
  have hBH := Lib.hid hB
  clear hB
  go_enter Tryz.func100, Tryz.ntmps100
  go_wp2_with fail
  obtain ⟨hb, hs, h1, h2⟩ := hBH.out
  have hBl := Lib.hid hb
  clear hb hBH
  generalize (w.alloc (.cells #[.int .i64 d, .int .i64 i] 48)).alloc (.cells #[.int .i64 d', .int .i64 i'] 48) = W at *
  have c0 : W.cell? ⟨w.heap.size, 0, none⟩ = some (.int .i64 d) := by rw [h1.cell]; rfl
  have c1 : W.cell? ⟨w.heap.size, 1, none⟩ = some (.int .i64 i) := by rw [h1.cell]; rfl
  have c2 : W.cell? ⟨w.heap.size + 1, 0, none⟩ = some (.int .i64 d') := by rw [h2.cell]; rfl
  have c3 : W.cell? ⟨w.heap.size + 1, 1, none⟩ = some (.int .i64 i') := by rw [h2.cell]; rfl
  go_still_tail 10, (by kernel_rfl)
  still_call (stillL (C1.out _))
  repeat still_step
  still_call (stillL (C2.out _))
  repeat still_step
  refine wpStill_nil ?_
  change wpList _ _ _ _ _ W.drew
  clear c0 c1 c2 c3 h1 h2
  have hBl2 := Lib.hid (hBl.out.drew)
  clear hBl
  generalize W.drew = W2 at *
  go_wp2_with fail
  refine (C3.out W2.heap.size 2 _ _ (Rd.fresh _ _ _ 2 rfl)).mono ?_; rintro e w3 ⟨rfl, rfl⟩
  go_wp2
  go_ret
  exact ⟨rfl, hBl2.out.alloc hBl2.out.size _⟩
/-- Which of two dots is ahead. -/
def ordI (d i s d' i' s' : Int) : Int := orI (orI (cmpI d d') (cmpI i i')) (cmpI s s')
/-- Two boxed dots, as cells. -/
def TwoDots (n : Nat) (d i s d' i' s' : Int) (w W : World) : Prop :=
  Below n w W ∧ n + 2 ≤ W.heap.size ∧ W.cell? ⟨n, 0, none⟩ = some (.int .i64 d) ∧ W.cell? ⟨n, 1, none⟩ = some (.int .i64 i) ∧ W.cell? ⟨n, 2, none⟩ = some (.int .i64 s) ∧
    W.cell? ⟨n + 1, 0, none⟩ = some (.int .i64 d') ∧ W.cell? ⟨n + 1, 1, none⟩ = some (.int .i64 i') ∧ W.cell? ⟨n + 1, 2, none⟩ = some (.int .i64 s')
theorem TwoDots.step {n : Nat} {d i s d' i' s' : Int} {w W W' : World} (h : TwoDots n d i s d' i' s' w W) (b : Below W.heap.size W W') : TwoDots n d i s d' i' s' w W' := by
  obtain ⟨h0, h1, c0, c1, c2, c3, c4, c5⟩ := h
  have hb := b.size
  refine ⟨h0.trans (below_of_le b (by omega)), by omega, ?_, ?_, ?_, ?_, ?_, ?_⟩
  all_goals
    rw [b.cell (by simp only; omega)]
    assumption
theorem TwoDots.new (w : World) (d i s d' i' s' : Int) (t : TypeId) : TwoDots w.heap.size d i s d' i' s' w ((w.alloc (.cells #[.int .i64 d, .int .i64 i, .int .i64 s] t)).alloc (.cells #[.int .i64 d', .int .i64 i', .int .i64 s'] t)) := by
  obtain ⟨h0, h1, h2, h3⟩ := boxes_new w t #[.int .i64 d, .int .i64 i, .int .i64 s] #[.int .i64 d', .int .i64 i', .int .i64 s']
  refine ⟨h0, by omega, ?_, ?_, ?_, ?_, ?_, ?_⟩
  all_goals first | (rw [h2.cell]; rfl) | (rw [h3.cell]; rfl)
theorem order_any (d i s d' i' s' : Int) (w : World) : Calls Tryz.prog 117 #[dotV d i s, dotV d' i' s'] w fun e w' => e = .returned (.int .i64 (ordI d i s d' i' s')) ∧ Below w.heap.size w w' := by
  have C1 := Lib.hid (fun n W (h : TwoDots n d i s d' i' s' w W) => (compare_any d i d' i' W).mono fun e w' (h' : e = _ ∧ Below W.heap.size W w') => And.intro h'.1 (h.step h'.2))
  have C2 := Lib.hid (fun w => cmpc_any s s' w)
  have C3 := Lib.hid (fun g c B w hr => or2_any (orI (cmpI d d') (cmpI i i')) (cmpI s s') g c B w hr)
  unfold ordI
  generalize orI (cmpI d d') (cmpI i i') = x at *
  generalize cmpI s s' = y at *
  unfold actV at C1
  unfold dotV
  have hB := Lib.hid (TwoDots.new w d i s d' i' s' 50)
  go_enter Tryz.func117, Tryz.ntmps117
  go_wp2_with fail
  have hT := hB.out
  clear hB
  generalize (w.alloc (.cells #[.int .i64 d, .int .i64 i, .int .i64 s] 50)).alloc (.cells #[.int .i64 d', .int .i64 i', .int .i64 s'] 50) = W at *
  generalize hn : w.heap.size = n at *
  obtain ⟨h0, h1, c0, c1, c2, c3, c4, c5⟩ := hT
  go_region_held3 (fun W => Below n w W ∧ n + 2 ≤ W.heap.size ∧ W.cell? ⟨n, 0, none⟩ = some (.int .i64 d) ∧ W.cell? ⟨n, 1, none⟩ = some (.int .i64 i) ∧ W.cell? ⟨n, 2, none⟩ = some (.int .i64 s) ∧
    W.cell? ⟨n + 1, 0, none⟩ = some (.int .i64 d') ∧ W.cell? ⟨n + 1, 1, none⟩ = some (.int .i64 i') ∧ W.cell? ⟨n + 1, 2, none⟩ = some (.int .i64 s')) (first | assumption | exact ⟨by assumption, by assumption, by assumption, by assumption, by assumption, by assumption, by assumption, by assumption⟩ | exact TwoDots.step ⟨by assumption, by assumption, by assumption, by assumption, by assumption, by assumption, by assumption, by assumption⟩ (Below.alloc (Below.refl _ _) (Nat.le_refl _) _) | exact TwoDots.step ⟨by assumption, by assumption, by assumption, by assumption, by assumption, by assumption, by assumption, by assumption⟩ (Below.drew (Below.refl _ _))) ((first | (go_at_call 100; refine (C1.out n _ (by first | assumption | exact ⟨by assumption, by assumption, by assumption, by assumption, by assumption, by assumption, by assumption, by assumption⟩)).mono ?_; rintro e w1 ⟨rfl, s0, s1, s2, s3, s4, s5, s6, s7⟩) | (go_at_call 131; refine (C2.out _).mono ?_; rintro e w1 ⟨rfl, rfl⟩) | (go_at_call 128; refine (C3.out _ _ _ _ (Rd.fresh _ _ _ 2 rfl)).mono ?_; rintro e w1 ⟨rfl, rfl⟩)))
  refine (by assumption : ∀ (a : Act) (w : World), _ → _) _ _ ?_
  go_wp2
  go_ret
  have hz := (by assumption : Below n w _ ∧ n + 2 ≤ _ ∧ _)
  exact ⟨rfl, hn ▸ hz.1⟩
theorem less_any (d i s d' i' s' : Int) (w : World) : Calls Tryz.prog 98 #[dotV d i s, dotV d' i' s'] w fun e w' => e = .returned (.bool (decide (ordI d i s d' i' s' < 0))) ∧ Below w.heap.size w w' := by
  have C1 := Lib.hid (fun w => order_any d i s d' i' s' w)
  generalize ordI d i s d' i' s' = x at *
  unfold dotV at C1 ⊢
  have hB := Lib.hid (TwoDots.new w d i s d' i' s' 50)
  go_enter Tryz.func98, Tryz.ntmps98
  go_wp2_with fail
  refine (C1.out _).mono ?_; rintro e w1 ⟨rfl, b1⟩
  go_wp2
  go_ret
  exact ⟨rfl, hB.out.1.trans (below_of_le b1 (by simp; omega))⟩
/-- The document's 'Ahead' and 'Less'. -/
def aheadB (d i d' i' : Int) : Bool := if d = d' then decide (i < i') else decide (d < d')
def rlessB (d i s d' i' s' : Int) : Bool := if d = d' ∧ i = i' then decide (s < s') else aheadB d i d' i'
end Go.Proofs.YtpakmeegldgjmaaGreat
/- Layer 16 (dot): equality of actors and dots; the document's Less; Next. -/
namespace Go.Proofs.YtpakmeegldgjmaaGreat
open Go.RowKit
set_option linter.unusedVariables false
set_option maxRecDepth 100000

theorem eqIn_act (k : Nat) (d i d' i' : Int) (w : World) : (Op.equalIn (k + 2) 48 (actV d i) (actV d' i')).run Tryz.prog w = .ok (decide (d = d' ∧ i = i')) w := by
  unfold actV
  rw [run_equalIn_agg w (k + 1) _ _ _ (by kernel_rfl) (by kernel_rfl)]
  by_cases h1 : d = d' <;> by_cases h2 : i = i' <;> simp [Program.fieldsOf, Tryz.underlying48, Op.eqFields, go_sem, Tryz.underlying3, h1, h2]
theorem eqIn_dot (k : Nat) (d i s d' i' s' : Int) (w : World) : (Op.equalIn (k + 3) 50 (dotV d i s) (dotV d' i' s')).run Tryz.prog w = .ok (decide (d = d' ∧ i = i' ∧ s = s')) w := by
  have h := fun w => eqIn_act k d i d' i' w
  unfold actV at h
  unfold dotV
  rw [run_equalIn_agg w (k + 2) _ _ _ (by kernel_rfl) (by kernel_rfl)]
  by_cases h1 : d = d' <;> by_cases h2 : i = i' <;> by_cases h3 : s = s' <;> simp [Program.fieldsOf, Tryz.underlying50, Op.eqFields, go_sem, Tryz.underlying3, h, h1, h2, h3]
theorem eql_act (d i d' i' : Int) (w : World) : (binOp .eql 48 (actV d i) (actV d' i')).run Tryz.prog w = .ok (.bool (decide (d = d' ∧ i = i'))) w := by
  have h := eqIn_act 9998 d i d' i' w
  unfold actV at h ⊢
  rw [run_eql_struct, h]
  rfl
theorem eql_dot (d i s d' i' s' : Int) (w : World) : (binOp .eql 50 (dotV d i s) (dotV d' i' s')).run Tryz.prog w = .ok (.bool (decide (d = d' ∧ i = i' ∧ s = s'))) w := by
  have h := eqIn_dot 9997 d i s d' i' s' w
  unfold dotV at h ⊢
  rw [run_eql_struct, h]
  rfl
end Go.Proofs.YtpakmeegldgjmaaGreat
/- Layer 16 (dot): Put. -/
namespace Go.Proofs.YtpakmeegldgjmaaGreat
open Go.RowKit
set_option linter.unusedVariables false
set_option maxRecDepth 100000
set_option maxHeartbeats 400000

theorem Ch.cell {S : Nat → Prop} {w w' : World} (h : Ch S w w') {p : Addr} (hp : p.block < w.heap.size) (hS : ¬ S p.block) : w'.cell? p = w.cell? p := World.cell?_of_block (h.block _ hp hS)
theorem WStep.trans {w w1 w2 : World} {b : Nat} {A A1 A2 : Option Addr} (h : WStep w w1 b A A1) (k : WStep w1 w2 b A1 A2) : WStep w w2 b A A2 := by
  refine ⟨h.1.trans k.1 ?_, ?_⟩
  · rintro j hj (rfl | hA)
    · exact .inl rfl
    · rcases h.2 j hA with h' | h'
      · exact .inr h'
      · omega
  · intro g hg
    rcases k.2 g hg with h' | h'
    · exact h.2 g h'
    · exact .inr (Nat.le_trans h.1.size h')
theorem WStep.of_below {w w1 w2 : World} {b : Nat} {A A2 : Option Addr} (h : Below w.heap.size w w1) (k : WStep w1 w2 b A A2) : WStep w w2 b A A2 := by
  refine ⟨(below_ch h).trans k.1 (fun j _ hj => hj), fun g hg => ?_⟩
  rcases k.2 g hg with h' | h'
  · exact .inl h'
  · exact .inr (Nat.le_trans h.size h')
theorem WStep.below {w w1 w2 : World} {b : Nat} {A A1 : Option Addr} (h : WStep w w1 b A A1) (k : Below w1.heap.size w1 w2) : WStep w w2 b A A1 :=
  ⟨h.1.trans (below_ch (S := fun _ => False) k) (fun _ _ hf => hf.elim), h.2⟩
theorem WStep.refl (w : World) (b : Nat) (A : Option Addr) : WStep w w b A A := ⟨Ch.refl _ _, fun g hg => .inl hg⟩
theorem Wr.below {w w' : World} {base b c : Nat} {A : Option Addr} {l : List UInt8} (h : Wr w base b A c l) (k : Below w.heap.size w w') : Wr w' base b A c l :=
  ⟨h.1, h.2.1.below k h.2.1.lt, h.2.2.below k (Nat.le_refl _)⟩
theorem Wr.ch {S : Nat → Prop} {w w' : World} {base b c : Nat} {A : Option Addr} {l : List UInt8} (h : Wr w base b A c l) (k : Ch S w w') (h1 : ¬ S b) (h2 : ∀ g, bl A = some g → ¬ S g) : Wr w' base b A c l :=
  ⟨h.1, h.2.1.ch k h1, h.2.2.ch k (fun g _ _ hg => h2 g hg)⟩
/-- A boxed dot, as cells, in a block that the writer does not touch. -/
def DotS (n b : Nat) (d i s : Int) (W : World) : Prop :=
  n < W.heap.size ∧ n ≠ b ∧ W.cell? ⟨n, 0, none⟩ = some (.int .i64 d) ∧ W.cell? ⟨n, 1, none⟩ = some (.int .i64 i) ∧ W.cell? ⟨n, 2, none⟩ = some (.int .i64 s)
theorem DotS.below {n b : Nat} {d i s : Int} {W W' : World} (h : DotS n b d i s W) (k : Below W.heap.size W W') : DotS n b d i s W' := by
  obtain ⟨h0, h1, c0, c1, c2⟩ := h
  refine ⟨Nat.lt_of_lt_of_le h0 k.size, h1, ?_, ?_, ?_⟩
  all_goals
    rw [k.cell (by simpa using h0)]
    assumption
theorem DotS.ch {S : Nat → Prop} {n b : Nat} {d i s : Int} {W W' : World} (h : DotS n b d i s W) (k : Ch S W W') (hS : ¬ S n) : DotS n b d i s W' := by
  obtain ⟨h0, h1, c0, c1, c2⟩ := h
  refine ⟨Nat.lt_of_lt_of_le h0 k.size, h1, ?_, ?_, ?_⟩
  all_goals
    rw [k.cell h0 hS]
    assumption
/-- 'Num' beside a boxed dot. -/
theorem wnum_dot (n : Nat) (d i s : Int) (w : World) (base b : Nat) (A : Option Addr) (c : Nat) (l : List UInt8) (x : Nat) (h : Wr w base b A c l) (hA : bl A ≠ some n) (hbase : base ≤ w.heap.size) (hl : l.length ≤ 1000000) (hx : x < 18446744073709551616)
    (hD : DotS n b d i s w) :
    Calls Tryz.prog 21 #[.pointer (some ⟨b, 0, none⟩), .int .u64 x] w fun e w' => ∃ A' c', e = .returned (.pointer (some ⟨b, 0, none⟩)) ∧ Wr w' base b A' c' (l ++ vput x) ∧ WStep w w' b A A' ∧ bl A' ≠ some n ∧ base ≤ w'.heap.size ∧
      n < w'.heap.size ∧ n ≠ b ∧ w'.cell? ⟨n, 0, none⟩ = some (.int .i64 d) ∧ w'.cell? ⟨n, 1, none⟩ = some (.int .i64 i) ∧ w'.cell? ⟨n, 2, none⟩ = some (.int .i64 s) := by
  refine (wnum_any w base b A c l x h hbase hl hx).mono ?_
  rintro e w' ⟨A', c', rfl, h', st⟩
  have hne : bl A' ≠ some n := by
    intro e
    rcases st.2 n e with h1 | h1
    · exact hA h1
    · have := hD.1; omega
  obtain ⟨k0, k1, k2, k3, k4⟩ := hD.ch st.1 (by rintro (e | e); exact hD.2.1 e; exact hA e)
  exact ⟨A', c', rfl, h', st, hne, Nat.le_trans hbase st.1.size, k0, k1, k2, k3, k4⟩
/-- A dot, packed. -/
def dotP (d i s : Int) : List UInt8 := if dotB d i s = true then vput d.toNat ++ (vput i.toNat ++ vput s.toNat) else []
/-- What a step of the writer that hands nothing back leaves. -/
def WEnd0 (w : World) (base b : Nat) (A : Option Addr) (l : List UInt8) (e : Ending) (w' : World) : Prop :=
  ∃ A' c', e = .returned (.tuple #[]) ∧ Wr w' base b A' c' l ∧ WStep w w' b A A'
theorem dput_any (d i s : Int) (w : World) (base b : Nat) (A : Option Addr) (c : Nat) (l : List UInt8) (h : Wr w base b A c l) (hbase : base ≤ w.heap.size) (hl : l.length ≤ 900000) :
    Calls Tryz.prog 61 #[.pointer (some ⟨b, 0, none⟩), dotV d i s] w (WEnd0 w base b A (l ++ dotP d i s)) := by
  have C1 := Lib.hid (fun w => right_any d i s w)
  have hP : dotP d i s = if dotB d i s = true then vput d.toNat ++ (vput i.toNat ++ vput s.toNat) else [] := rfl
  have hB : dotB d i s = true → ∃ D I S : Nat, d = D ∧ i = I ∧ s = S ∧ D < 64 ∧ I ≤ 1048576 ∧ S ≤ 4294967296 := by
    intro hb
    simp [dotB, actB] at hb
    exact ⟨d.toNat, i.toNat, s.toNat, by omega, by omega, by omega, by omega, by omega, by omega⟩
  rw [hP]
  clear hP
  have hDS : DotS w.heap.size b d i s (w.alloc (.cells #[.int .i64 d, .int .i64 i, .int .i64 s] 50)) := by
    have hw := Whole.new w 50 #[.int .i64 d, .int .i64 i, .int .i64 s]
    refine ⟨hw.lt, Nat.ne_of_gt h.2.1.lt, ?_, ?_, ?_⟩
    all_goals (rw [hw.cell]; rfl)
  have hb0 : Below w.heap.size w (w.alloc (.cells #[.int .i64 d, .int .i64 i, .int .i64 s] 50)) := (Below.refl _ _).alloc (Nat.le_refl _) _
  have hsz : (w.alloc (.cells #[.int .i64 d, .int .i64 i, .int .i64 s] 50)).heap.size = w.heap.size + 1 := by simp
  unfold dotV at C1 ⊢
  generalize dotB d i s = q at *
  generalize hLL : (l ++ if q = true then vput d.toNat ++ (vput i.toNat ++ vput s.toNat) else []) = LL
  cases q
  · have HB := Lib.hid hb0
    have HL : LL = l := by rw [← hLL]; simp
    subst HL
    have hh := Lib.hid h
    clear hb0 hDS hsz hLL hB h
    go_enter Tryz.func61, Tryz.ntmps61
    go_wp2_with fail
    refine (C1.out _).mono ?_; rintro e w1 ⟨rfl, b1⟩
    go_wp2
    have b2 := below_step HB.out b1
    first | go_end0 | refine bodyPost_ret (results_none rfl _ _ _) rfl ?_
    exact ⟨A, c, rfl, hh.out.below b2, WStep.below (WStep.refl _ _ _) b2⟩
  · obtain ⟨D, I, S, rfl, rfl, rfl, hd, hi, hs⟩ := hB rfl
    have HL := Lib.hid (show LL = ((l ++ vput D) ++ vput I) ++ vput S by rw [← hLL]; simp)
    clear hLL
    have hA : bl A ≠ some w.heap.size := by
      intro e
      have := h.2.2.block_lt _ (by rw [ownBlock_bl]; exact e)
      omega
    have l1 := Lib.hid (vput_le (x := D) (by omega))
    have l2 := Lib.hid (vput_le (x := I) (by omega))
    have CN1 := Lib.hid (fun (W : World) (A' : Option Addr) (c' : Nat) (h : Wr W base b A' c' l) => wnum_dot w.heap.size D I S W base b A' c' l D h)
    have CN2 := Lib.hid (fun (W : World) (A' : Option Addr) (c' : Nat) (h : Wr W base b A' c' (l ++ vput D)) => wnum_dot w.heap.size D I S W base b A' c' (l ++ vput D) I h)
    have CN3 := Lib.hid (fun (W : World) (A' : Option Addr) (c' : Nat) (h : Wr W base b A' c' ((l ++ vput D) ++ vput I)) => wnum_dot w.heap.size D I S W base b A' c' ((l ++ vput D) ++ vput I) S h)
    have hS1 := fun (W1 : World) (h1 : Below (w.heap.size + 1) (w.alloc (.cells #[.int .i64 D, .int .i64 I, .int .i64 S] 50)) W1) => (h.below hb0).below (w' := W1) (by rw [hsz]; exact h1)
    have hS2 := fun (W1 : World) (h1 : Below (w.heap.size + 1) (w.alloc (.cells #[.int .i64 D, .int .i64 I, .int .i64 S] 50)) W1) => hDS.below (W' := W1) (by rw [hsz]; exact h1)
    have HB := Lib.hid hb0
    have HS1 := Lib.hid hS1
    have HS2 := Lib.hid hS2
    have HDS := Lib.hid hsz
    clear hb0 hDS hsz hB hS1 hS2
    go_enter Tryz.func61, Tryz.ntmps61
    go_wp2_with fail
    refine (C1.out _).mono ?_; rintro e w1 ⟨rfl, b1⟩
    rw [HDS.out] at b1
    have hW1 := HS1.out _ b1
    obtain ⟨s0, s1, s2, s3, s4⟩ := HS2.out _ b1
    have B1 := Lib.hid (HB.out.trans (below_of_le b1 (by omega)))
    clear HS1 HS2 HB b1 HDS
    have hbase1 : base ≤ w1.heap.size := Nat.le_trans hbase B1.out.size
    generalize hn : w.heap.size = n at *
    have len1 : l.length ≤ 1000000 := by omega
    have len2 : (l ++ vput D).length ≤ 1000000 := by have := l1.out; simp; omega
    have len3 : ((l ++ vput D) ++ vput I).length ≤ 1000000 := by have := l1.out; have := l2.out; simp; omega
    have x1 : D < 18446744073709551616 := by omega
    have x2 : I < 18446744073709551616 := by omega
    have x3 : S < 18446744073709551616 := by omega
    have y1 : IntKind.u64.wrap (D : Int) = (D : Int) := by rw [IntKind.wrap_u64]; omega
    have y2 : IntKind.u64.wrap (I : Int) = (I : Int) := by rw [IntKind.wrap_u64]; omega
    have y3 : IntKind.u64.wrap (S : Int) = (S : Int) := by rw [IntKind.wrap_u64]; omega
    clear l1 l2 C1 hd hi hs hl
    generalize ((l ++ vput D) ++ vput I) ++ vput S = L3 at *
    generalize (l ++ vput D) ++ vput I = L2 at *
    generalize l ++ vput D = L1 at *
    go_wp2_with fail
    have hWd : Wr w1.drew base b A c l := hW1
    have hbd : base ≤ w1.drew.heap.size := hbase1
    have d0 : n < w1.drew.heap.size := s0
    have d2 : w1.drew.cell? ⟨n, 0, none⟩ = some (.int .i64 D) := s2
    have d3 : w1.drew.cell? ⟨n, 1, none⟩ = some (.int .i64 I) := s3
    have d4 : w1.drew.cell? ⟨n, 2, none⟩ = some (.int .i64 S) := s4
    clear hW1 hbase1 s0 s2 s3 s4
    go_region_held3 (fun W => n < W.heap.size ∧ n ≠ b ∧ W.cell? ⟨n, 0, none⟩ = some (.int .i64 D) ∧ W.cell? ⟨n, 1, none⟩ = some (.int .i64 I) ∧ W.cell? ⟨n, 2, none⟩ = some (.int .i64 S)) (first | with_reducible assumption | exact ⟨by with_reducible assumption, by with_reducible assumption, by with_reducible assumption, by with_reducible assumption, by with_reducible assumption⟩ | go_keep) ((first
      | (go_at_call_of 21 (Value.int .u64 (D : Int)); refine (CN1.out _ _ _ (by with_reducible assumption) (by with_reducible assumption) (by with_reducible assumption) len1 x1 ⟨by with_reducible assumption, by with_reducible assumption, by with_reducible assumption, by with_reducible assumption, by with_reducible assumption⟩).mono ?_; rintro e w2 ⟨A2, c2, rfl, hW2, st2, hA2, hb2, p0, p1, p2, p3, p4⟩)
      | (go_at_call_of 21 (Value.int .u64 (I : Int)); refine (CN2.out _ _ _ (by with_reducible assumption) (by with_reducible assumption) (by with_reducible assumption) len2 x2 ⟨by with_reducible assumption, by with_reducible assumption, by with_reducible assumption, by with_reducible assumption, by with_reducible assumption⟩).mono ?_; rintro e w3 ⟨A3, c3, rfl, hW3, st3, hA3, hb3, p0, p1, p2, p3, p4⟩)
      | (go_at_call_of 21 (Value.int .u64 (S : Int)); refine (CN3.out _ _ _ (by with_reducible assumption) (by with_reducible assumption) (by with_reducible assumption) len3 x3 ⟨by with_reducible assumption, by with_reducible assumption, by with_reducible assumption, by with_reducible assumption, by with_reducible assumption⟩).mono ?_; rintro e w4 ⟨A4, c4, rfl, hW4, st4, hA4, hb4, p0, p1, p2, p3, p4⟩)))
    first | go_end0 | refine bodyPost_ret (results_none rfl _ _ _) rfl ?_
    have B2 : Below w.heap.size w w1.drew := by rw [hn]; exact B1.out.drew
    refine ⟨A4, c4, rfl, ?_, (WStep.of_below B2 st2).trans (st3.trans st4)⟩
    rw [HL.out]
    exact hW4
end Go.Proofs.YtpakmeegldgjmaaGreat
/- Layer 16 (dot): the walk of the law DotOrders. -/
namespace Go.Proofs.YtpakmeegldgjmaaGreat
open Go.RowKit
set_option linter.unusedVariables false
set_option maxRecDepth 100000

/-- Which of two actors is ahead: one of three. -/
theorem three (d i d' i' : Int) : (aheadB d i d' i' = true ∧ aheadB d' i' d i = false ∧ orI (cmpI d d') (cmpI i i') = -1) ∨ (aheadB d i d' i' = false ∧ aheadB d' i' d i = true ∧ orI (cmpI d d') (cmpI i i') = 1) ∨
    (aheadB d i d' i' = false ∧ aheadB d' i' d i = false ∧ orI (cmpI d d') (cmpI i i') = 0) := by
  unfold aheadB orI cmpI
  rcases Int.lt_trichotomy d d' with h | h | h
  · left; simp [show ¬ d = d' by omega, show ¬ d' = d by omega, h]; omega
  · subst h
    rcases Int.lt_trichotomy i i' with h | h | h
    · left; simp [h]; omega
    · subst h; right; right; simp
    · right; left; simp [h, show ¬ i < i' by omega]
  · right; left; simp [show ¬ d = d' by omega, show ¬ d' = d by omega, h, show ¬ d < d' by omega]
theorem ord_less (d i s d' i' s' : Int) : decide (ordI d i s d' i' s' < 0) = rlessB d i s d' i' s' := by
  unfold ordI rlessB
  have h3 := three d i d' i'
  by_cases he : d = d' ∧ i = i'
  · rw [if_pos he]
    obtain ⟨rfl, rfl⟩ := he
    have : orI (cmpI d d) (cmpI i i) = 0 := by simp [orI, cmpI]
    rw [this]
    simp only [orI, if_true, cmpI]
    rcases Int.lt_trichotomy s s' with h | h | h
    · simp [h]
    · subst h; simp
    · simp [show ¬ s < s' by omega, h]
  · rw [if_neg he]
    rcases h3 with ⟨h1, h2, h3⟩ | ⟨h1, h2, h3⟩ | ⟨h1, h2, h3⟩
    · rw [h3, h1]; simp [orI]
    · rw [h3, h1]; simp [orI]
    · exfalso
      apply he
      unfold aheadB at h1 h2
      by_cases hd : d = d'
      · refine ⟨hd, ?_⟩
        simp [hd] at h1 h2
        omega
      · simp [hd, show ¬ d' = d from fun e => hd e.symm] at h1 h2
        omega
end Go.Proofs.YtpakmeegldgjmaaGreat
/- Layer 19 (clock): Right, Less, later, by program and by the document. -/
namespace Go.Proofs.YtpakmeegldgjmaaGreat
open Go.RowKit
set_option linter.unusedVariables false
set_option maxRecDepth 100000

/-- A stamp, as a value. -/
def stV (a b c : Int) : Value := .agg #[.int .i64 a, .int .i64 b, .int .i64 c]
def inB (n m : Int) : Bool := decide (0 ≤ n) && decide (n ≤ m)
def stB (a b c : Int) : Bool := inB a 4398046511104 && inB b 65535 && inB c 63
theorem within_any (n m : Int) (w : World) : Calls Tryz.prog 110 #[.int .i64 n, .int .i64 m] w fun e w' => e = .returned (.bool (inB n m)) ∧ w = w' := by
  go_enter Tryz.func110, Tryz.ntmps110
  go_wp2
  all_goals
    go_ret
    refine ⟨ret_bool ?_, rfl⟩
    unfold inB
    simp [*]
    try omega
theorem cright_any (a b c : Int) (w : World) : Calls Tryz.prog 85 #[stV a b c] w fun e w' => e = .returned (.bool (stB a b c)) ∧ Below w.heap.size w w' := by
  have C1 := Lib.hid (fun w => within_any a 4398046511104 w)
  have C2 := Lib.hid (fun w => within_any b 65535 w)
  have C3 := Lib.hid (fun w => within_any c 63 w)
  unfold stB stV
  have B0 := Lib.hid ((Below.refl w.heap.size w).alloc (Nat.le_refl _) (.cells #[.int .i64 a, .int .i64 b, .int .i64 c] 52))
  generalize inB a 4398046511104 = p at *
  generalize inB b 65535 = q at *
  generalize inB c 63 = r at *
  go_enter Tryz.func85, Tryz.ntmps85
  cases p
  · go_wp2_with fail
    refine (C1.out _).mono ?_; rintro e w1 ⟨rfl, rfl⟩
    go_wp2
    go_ret
    exact ⟨rfl, B0.out⟩
  · cases q
    · go_wp2_with fail
      refine (C1.out _).mono ?_; rintro e w1 ⟨rfl, rfl⟩
      go_wp2_with fail
      refine (C2.out _).mono ?_; rintro e w1 ⟨rfl, rfl⟩
      go_wp2
      go_ret
      exact ⟨rfl, B0.out⟩
    · go_wp2_with fail
      refine (C1.out _).mono ?_; rintro e w1 ⟨rfl, rfl⟩
      go_wp2_with fail
      refine (C2.out _).mono ?_; rintro e w1 ⟨rfl, rfl⟩
      go_wp2_with fail
      refine (C3.out _).mono ?_; rintro e w1 ⟨rfl, rfl⟩
      go_wp2
      go_ret
      exact ⟨ret_bool (by simp), B0.out⟩
theorem later_any (a b c a' b' c' : Int) (w : World) : Calls Tryz.prog 130 #[stV a b c, stV a' b' c'] w fun e w' => e = .returned (.int .i64 (orI (cmpI a a') (cmpI b b'))) ∧ Below w.heap.size w w' := by
  have C1 := Lib.hid (fun w => cmpc_any a a' w)
  have C2 := Lib.hid (fun w => cmpc_any b b' w)
  have C3 := Lib.hid (fun g c B w hr => or2_any (cmpI a a') (cmpI b b') g c B w hr)
  generalize cmpI a a' = x at *
  generalize cmpI b b' = y at *
  unfold stV
  have hB := boxes_new w 52 #[.int .i64 a, .int .i64 b, .int .i64 c] #[.int .i64 a', .int .i64 b', .int .i64 c']
  have hBH := Lib.hid hB
  clear hB
  go_enter Tryz.func130, Tryz.ntmps130
  go_wp2_with fail
  obtain ⟨hb, hs, h1, h2⟩ := hBH.out
  have hBl := Lib.hid hb
  clear hb hBH
  generalize (w.alloc (.cells #[.int .i64 a, .int .i64 b, .int .i64 c] 52)).alloc (.cells #[.int .i64 a', .int .i64 b', .int .i64 c'] 52) = W at *
  have c0 : W.cell? ⟨w.heap.size, 0, none⟩ = some (.int .i64 a) := by rw [h1.cell]; rfl
  have c1 : W.cell? ⟨w.heap.size, 1, none⟩ = some (.int .i64 b) := by rw [h1.cell]; rfl
  have c2 : W.cell? ⟨w.heap.size + 1, 0, none⟩ = some (.int .i64 a') := by rw [h2.cell]; rfl
  have c3 : W.cell? ⟨w.heap.size + 1, 1, none⟩ = some (.int .i64 b') := by rw [h2.cell]; rfl
  go_still_tail 10, (by kernel_rfl)
  still_call (stillL (C1.out _))
  repeat still_step
  still_call (stillL (C2.out _))
  repeat still_step
  refine wpStill_nil ?_
  change wpList _ _ _ _ _ W.drew
  clear c0 c1 c2 c3 h1 h2
  have hBl2 := Lib.hid (hBl.out.drew)
  clear hBl
  generalize W.drew = W2 at *
  go_wp2_with fail
  refine (C3.out W2.heap.size 2 _ _ (Rd.fresh _ _ _ 2 rfl)).mono ?_; rintro e w3 ⟨rfl, rfl⟩
  go_wp2
  go_ret
  exact ⟨rfl, hBl2.out.alloc hBl2.out.size _⟩
/-- The document's 'Less'. -/
def stL (a b c a' b' c' : Int) : Bool := if a = a' then (if b = b' then decide (c < c') else decide (b < b')) else decide (a < a')
theorem stLess_ord (a b c a' b' c' : Int) : stL a b c a' b' c' = decide (orI (orI (cmpI a a') (cmpI b b')) (cmpI c c') < 0) := by
  unfold stL orI cmpI
  repeat' split
  all_goals first | rfl | (simp; omega) | omega
theorem cless_any (d i s d' i' s' : Int) (w : World) : Calls Tryz.prog 97 #[stV d i s, stV d' i' s'] w fun e w' => e = .returned (.bool (stL d i s d' i' s')) ∧ Below w.heap.size w w' := by
  have C1 := Lib.hid (fun n W (h : TwoDots n d i s d' i' s' w W) => (later_any d i s d' i' s' W).mono fun e w' (h' : e = _ ∧ Below W.heap.size W w') => And.intro h'.1 (h.step h'.2))
  have C2 := Lib.hid (fun w => cmpc_any s s' w)
  have C3 := Lib.hid (fun g c B w hr => or2_any (orI (cmpI d d') (cmpI i i')) (cmpI s s') g c B w hr)
  rw [stLess_ord]
  generalize orI (cmpI d d') (cmpI i i') = x at *
  generalize cmpI s s' = y at *
  unfold stV at C1 ⊢
  have hB := Lib.hid (TwoDots.new w d i s d' i' s' 52)
  go_enter Tryz.func97, Tryz.ntmps97
  go_wp2_with fail
  have hT := hB.out
  clear hB
  generalize (w.alloc (.cells #[.int .i64 d, .int .i64 i, .int .i64 s] 52)).alloc (.cells #[.int .i64 d', .int .i64 i', .int .i64 s'] 52) = W at *
  generalize hn : w.heap.size = n at *
  obtain ⟨h0, h1, c0, c1, c2, c3, c4, c5⟩ := hT
  go_region_held3 (fun W => Below n w W ∧ n + 2 ≤ W.heap.size ∧ W.cell? ⟨n, 0, none⟩ = some (.int .i64 d) ∧ W.cell? ⟨n, 1, none⟩ = some (.int .i64 i) ∧ W.cell? ⟨n, 2, none⟩ = some (.int .i64 s) ∧
    W.cell? ⟨n + 1, 0, none⟩ = some (.int .i64 d') ∧ W.cell? ⟨n + 1, 1, none⟩ = some (.int .i64 i') ∧ W.cell? ⟨n + 1, 2, none⟩ = some (.int .i64 s')) (first | assumption | exact ⟨by assumption, by assumption, by assumption, by assumption, by assumption, by assumption, by assumption, by assumption⟩ | exact TwoDots.step ⟨by assumption, by assumption, by assumption, by assumption, by assumption, by assumption, by assumption, by assumption⟩ (Below.alloc (Below.refl _ _) (Nat.le_refl _) _) | exact TwoDots.step ⟨by assumption, by assumption, by assumption, by assumption, by assumption, by assumption, by assumption, by assumption⟩ (Below.drew (Below.refl _ _))) ((first | (go_at_call 130; refine (C1.out n _ (by first | assumption | exact ⟨by assumption, by assumption, by assumption, by assumption, by assumption, by assumption, by assumption, by assumption⟩)).mono ?_; rintro e w1 ⟨rfl, s0, s1, s2, s3, s4, s5, s6, s7⟩) | (go_at_call 131; refine (C2.out _).mono ?_; rintro e w1 ⟨rfl, rfl⟩) | (go_at_call 128; refine (C3.out _ _ _ _ (Rd.fresh _ _ _ 2 rfl)).mono ?_; rintro e w1 ⟨rfl, rfl⟩)))
  refine (by assumption : ∀ (a : Act) (w : World), _ → _) _ _ ?_
  go_wp2
  go_ret
  have hz := (by assumption : Below n w _ ∧ n + 2 ≤ _ ∧ _)
  exact ⟨rfl, hn ▸ hz.1⟩
end Go.Proofs.YtpakmeegldgjmaaGreat
/- The openers of slices of structs of whole numbers: []biscottilaw19.Step, []api.Dot. -/
namespace Go.Proofs.YtpakmeegldgjmaaGreat
open Go.ChangeShapes Go.WideShapes Go.ChangeAt Go.RowKit Go.Deep
set_option linter.unusedVariables false
set_option maxRecDepth 100000

/-- The slice (A, n) reads as n records of k whole numbers: number j of record i is f i j. -/
def Recs (w : World) (B k : Nat) (A : Option Addr) (n : Nat) (f : Nat → Nat → Int) : Prop :=
  0 < n → ∃ b o, A = some ⟨b, o, none⟩ ∧ b < B ∧ ∀ i, i < n → ∀ j, j < k → w.cell? ⟨b, o + (i * k + j), none⟩ = some (.int .i64 (f i j))
theorem Recs.keep {w w' : World} {B k n : Nat} {A : Option Addr} {f : Nat → Nat → Int} (h : Recs w B k A n f) (hk : ∀ p : Addr, p.block < B → w'.cell? p = w.cell? p) : Recs w' B k A n f := fun hn => by
  obtain ⟨b, o, e, hb, hc⟩ := h hn
  exact ⟨b, o, e, hb, fun i hi j hj => (hk _ hb).trans (hc i hi j hj)⟩
theorem Recs.below {w w' : World} {B k n : Nat} {A : Option Addr} {f : Nat → Nat → Int} (h : Recs w B k A n f) (hb : Below B w w') : Recs w' B k A n f := h.keep fun _ hp => hb.cell hp
end Go.Proofs.YtpakmeegldgjmaaGreat
/- Layer 19 (clock): Put, Get, and the document's Put. -/
namespace Go.Proofs.YtpakmeegldgjmaaGreat
open Go.RowKit
set_option linter.unusedVariables false
set_option maxRecDepth 100000

def stP (d i s : Int) : List UInt8 := if stB d i s = true then vput d.toNat ++ (vput i.toNat ++ vput s.toNat) else []
set_option maxHeartbeats 1000000 in
theorem cput_any (d i s : Int) (w : World) (base b : Nat) (A : Option Addr) (c : Nat) (l : List UInt8) (h : Wr w base b A c l) (hbase : base ≤ w.heap.size) (hl : l.length ≤ 900000) :
    Calls Tryz.prog 62 #[.pointer (some ⟨b, 0, none⟩), stV d i s] w (WEnd0 w base b A (l ++ stP d i s)) := by
  have C1 := Lib.hid (fun w => cright_any d i s w)
  have hP : stP d i s = if stB d i s = true then vput d.toNat ++ (vput i.toNat ++ vput s.toNat) else [] := rfl
  have hB : stB d i s = true → ∃ D I S : Nat, d = D ∧ i = I ∧ s = S ∧ D ≤ 4398046511104 ∧ I ≤ 65535 ∧ S ≤ 63 := by
    intro hb
    simp [stB, inB] at hb
    exact ⟨d.toNat, i.toNat, s.toNat, by omega, by omega, by omega, by omega, by omega, by omega⟩
  rw [hP]
  clear hP
  have hDS : DotS w.heap.size b d i s (w.alloc (.cells #[.int .i64 d, .int .i64 i, .int .i64 s] 52)) := by
    have hw := Whole.new w 52 #[.int .i64 d, .int .i64 i, .int .i64 s]
    refine ⟨hw.lt, Nat.ne_of_gt h.2.1.lt, ?_, ?_, ?_⟩
    all_goals (rw [hw.cell]; rfl)
  have hb0 : Below w.heap.size w (w.alloc (.cells #[.int .i64 d, .int .i64 i, .int .i64 s] 52)) := (Below.refl _ _).alloc (Nat.le_refl _) _
  have hsz : (w.alloc (.cells #[.int .i64 d, .int .i64 i, .int .i64 s] 52)).heap.size = w.heap.size + 1 := by simp
  unfold stV at C1 ⊢
  generalize stB d i s = q at *
  generalize hLL : (l ++ if q = true then vput d.toNat ++ (vput i.toNat ++ vput s.toNat) else []) = LL
  cases q
  · have HB := Lib.hid hb0
    have HL : LL = l := by rw [← hLL]; simp
    subst HL
    have hh := Lib.hid h
    clear hb0 hDS hsz hLL hB h
    go_enter Tryz.func62, Tryz.ntmps62
    go_wp2_with fail
    refine (C1.out _).mono ?_; rintro e w1 ⟨rfl, b1⟩
    go_wp2
    have b2 := below_step HB.out b1
    first | go_end0 | refine bodyPost_ret (results_none rfl _ _ _) rfl ?_
    exact ⟨A, c, rfl, hh.out.below b2, WStep.below (WStep.refl _ _ _) b2⟩
  · obtain ⟨D, I, S, rfl, rfl, rfl, hd, hi, hs⟩ := hB rfl
    have HL := Lib.hid (show LL = ((l ++ vput D) ++ vput I) ++ vput S by rw [← hLL]; simp)
    clear hLL
    have hA : bl A ≠ some w.heap.size := by
      intro e
      have := h.2.2.block_lt _ (by rw [ownBlock_bl]; exact e)
      omega
    have l1 := Lib.hid (vput_le (x := D) (by omega))
    have l2 := Lib.hid (vput_le (x := I) (by omega))
    have CN1 := Lib.hid (fun (W : World) (A' : Option Addr) (c' : Nat) (h : Wr W base b A' c' l) => wnum_dot w.heap.size D I S W base b A' c' l D h)
    have CN2 := Lib.hid (fun (W : World) (A' : Option Addr) (c' : Nat) (h : Wr W base b A' c' (l ++ vput D)) => wnum_dot w.heap.size D I S W base b A' c' (l ++ vput D) I h)
    have CN3 := Lib.hid (fun (W : World) (A' : Option Addr) (c' : Nat) (h : Wr W base b A' c' ((l ++ vput D) ++ vput I)) => wnum_dot w.heap.size D I S W base b A' c' ((l ++ vput D) ++ vput I) S h)
    have hS1 := fun (W1 : World) (h1 : Below (w.heap.size + 1) (w.alloc (.cells #[.int .i64 D, .int .i64 I, .int .i64 S] 52)) W1) => (h.below hb0).below (w' := W1) (by rw [hsz]; exact h1)
    have hS2 := fun (W1 : World) (h1 : Below (w.heap.size + 1) (w.alloc (.cells #[.int .i64 D, .int .i64 I, .int .i64 S] 52)) W1) => hDS.below (W' := W1) (by rw [hsz]; exact h1)
    have HB := Lib.hid hb0
    have HS1 := Lib.hid hS1
    have HS2 := Lib.hid hS2
    have HDS := Lib.hid hsz
    clear hb0 hDS hsz hB hS1 hS2
    go_enter Tryz.func62, Tryz.ntmps62
    go_wp2_with fail
    refine (C1.out _).mono ?_; rintro e w1 ⟨rfl, b1⟩
    rw [HDS.out] at b1
    have hW1 := HS1.out _ b1
    obtain ⟨s0, s1, s2, s3, s4⟩ := HS2.out _ b1
    have B1 := Lib.hid (HB.out.trans (below_of_le b1 (by omega)))
    clear HS1 HS2 HB b1 HDS
    have hbase1 : base ≤ w1.heap.size := Nat.le_trans hbase B1.out.size
    generalize hn : w.heap.size = n at *
    have len1 : l.length ≤ 1000000 := by omega
    have len2 : (l ++ vput D).length ≤ 1000000 := by have := l1.out; simp; omega
    have len3 : ((l ++ vput D) ++ vput I).length ≤ 1000000 := by have := l1.out; have := l2.out; simp; omega
    have x1 : D < 18446744073709551616 := by omega
    have x2 : I < 18446744073709551616 := by omega
    have x3 : S < 18446744073709551616 := by omega
    have y1 : IntKind.u64.wrap (D : Int) = (D : Int) := by rw [IntKind.wrap_u64]; omega
    have y2 : IntKind.u64.wrap (I : Int) = (I : Int) := by rw [IntKind.wrap_u64]; omega
    have y3 : IntKind.u64.wrap (S : Int) = (S : Int) := by rw [IntKind.wrap_u64]; omega
    clear l1 l2 C1 hd hi hs hl
    generalize ((l ++ vput D) ++ vput I) ++ vput S = L3 at *
    generalize (l ++ vput D) ++ vput I = L2 at *
    generalize l ++ vput D = L1 at *
    go_wp2_with fail
    have hWd : Wr w1.drew base b A c l := hW1
    have hbd : base ≤ w1.drew.heap.size := hbase1
    have d0 : n < w1.drew.heap.size := s0
    have d2 : w1.drew.cell? ⟨n, 0, none⟩ = some (.int .i64 D) := s2
    have d3 : w1.drew.cell? ⟨n, 1, none⟩ = some (.int .i64 I) := s3
    have d4 : w1.drew.cell? ⟨n, 2, none⟩ = some (.int .i64 S) := s4
    clear hW1 hbase1 s0 s2 s3 s4
    go_region_held3 (fun W => n < W.heap.size ∧ n ≠ b ∧ W.cell? ⟨n, 0, none⟩ = some (.int .i64 D) ∧ W.cell? ⟨n, 1, none⟩ = some (.int .i64 I) ∧ W.cell? ⟨n, 2, none⟩ = some (.int .i64 S)) (first | with_reducible assumption | exact ⟨by with_reducible assumption, by with_reducible assumption, by with_reducible assumption, by with_reducible assumption, by with_reducible assumption⟩ | go_keep) ((first
      | (go_at_call_of 21 (Value.int .u64 (D : Int)); refine (CN1.out _ _ _ (by with_reducible assumption) (by with_reducible assumption) (by with_reducible assumption) len1 x1 ⟨by with_reducible assumption, by with_reducible assumption, by with_reducible assumption, by with_reducible assumption, by with_reducible assumption⟩).mono ?_; rintro e w2 ⟨A2, c2, rfl, hW2, st2, hA2, hb2, p0, p1, p2, p3, p4⟩)
      | (go_at_call_of 21 (Value.int .u64 (I : Int)); refine (CN2.out _ _ _ (by with_reducible assumption) (by with_reducible assumption) (by with_reducible assumption) len2 x2 ⟨by with_reducible assumption, by with_reducible assumption, by with_reducible assumption, by with_reducible assumption, by with_reducible assumption⟩).mono ?_; rintro e w3 ⟨A3, c3, rfl, hW3, st3, hA3, hb3, p0, p1, p2, p3, p4⟩)
      | (go_at_call_of 21 (Value.int .u64 (S : Int)); refine (CN3.out _ _ _ (by with_reducible assumption) (by with_reducible assumption) (by with_reducible assumption) len3 x3 ⟨by with_reducible assumption, by with_reducible assumption, by with_reducible assumption, by with_reducible assumption, by with_reducible assumption⟩).mono ?_; rintro e w4 ⟨A4, c4, rfl, hW4, st4, hA4, hb4, p0, p1, p2, p3, p4⟩)))
    first | go_end0 | refine bodyPost_ret (results_none rfl _ _ _) rfl ?_
    have B2 : Below w.heap.size w w1.drew := by rw [hn]; exact B1.out.drew
    refine ⟨A4, c4, rfl, ?_, (WStep.of_below B2 st2).trans (st3.trans st4)⟩
    rw [HL.out]
    exact hW4
/-- What clock.Get reads. -/
def stG (l : List UInt8) (er : Int) : (Nat × Nat × Nat) × List UInt8 × Int :=
  ((rnumR 4398046511104 l er).1, (rnumR 65535 (rnumR 4398046511104 l er).2.1 (rnumR 4398046511104 l er).2.2).1, (rnumR 63 (rnumR 65535 (rnumR 4398046511104 l er).2.1 (rnumR 4398046511104 l er).2.2).2.1 (rnumR 65535 (rnumR 4398046511104 l er).2.1 (rnumR 4398046511104 l er).2.2).2.2).1) |> fun x =>
  (x, (rnumR 63 (rnumR 65535 (rnumR 4398046511104 l er).2.1 (rnumR 4398046511104 l er).2.2).2.1 (rnumR 65535 (rnumR 4398046511104 l er).2.1 (rnumR 4398046511104 l er).2.2).2.2).2)
theorem rnumR_le (most : Nat) (l : List UInt8) (er : Int) : (rnumR most l er).1 ≤ most := by
  unfold rnumR
  repeat' split
  all_goals simp
  all_goals omega
def stGV (l : List UInt8) (er : Int) : Value := if (stG l er).2.2 ≠ 0 then stV 0 0 0 else stV (stG l er).1.1 (stG l er).1.2.1 (stG l er).1.2.2
theorem cget_any (w : World) (b : Nat) (A : Option Addr) (n c : Nat) (l : List UInt8) (er : Int) (h : Re w b A n c l er) :
    Calls Tryz.prog 81 #[.pointer (some ⟨b, 0, none⟩)] w (REnd w b (stG l er).2 (stGV l er)) := by
  have C1 := Lib.hid (fun w A n c h => rnum_any w b A n c l er 4398046511104 h)
  have m1 := rnumR_le 4398046511104 l er
  unfold stGV stG
  simp only
  generalize rnumR 4398046511104 l er = R1 at *
  obtain ⟨v1, l1, r1⟩ := R1
  simp only at *
  have C2 := Lib.hid (fun w A n c h => rnum_any w b A n c l1 r1 65535 h)
  have m2 := rnumR_le 65535 l1 r1
  generalize rnumR 65535 l1 r1 = R2 at *
  obtain ⟨v2, l2, r2⟩ := R2
  simp only at *
  have C3 := Lib.hid (fun w A n c h => rnum_any w b A n c l2 r2 63 h)
  have m3 := rnumR_le 63 l2 r2
  generalize rnumR 63 l2 r2 = R3 at *
  obtain ⟨v3, l3, r3⟩ := R3
  simp only at *
  have C4 := Lib.hid (fun w A n c h => rerr_any w b A n c l3 r3 h)
  have y1 : IntKind.i64.wrap (v1 : Int) = (v1 : Int) := IntWalk.i64_in _ (by omega)
  have y2 : IntKind.i64.wrap (v2 : Int) = (v2 : Int) := IntWalk.i64_in _ (by omega)
  have y3 : IntKind.i64.wrap (v3 : Int) = (v3 : Int) := IntWalk.i64_in _ (by omega)
  have hlt := h.1.lt
  have hbn : w.heap.size ≠ b := by omega
  have hZ := Lib.hid (Whole.new w 52 #[.int .i64 0, .int .i64 0, .int .i64 0])
  have hRe : Re (w.alloc (.cells #[.int .i64 0, .int .i64 0, .int .i64 0] 52)) b A n c l er := ⟨h.1.alloc _, h.2.1.alloc (by omega) _, h.2.2⟩
  have hC := Lib.hid (Ch.alloc_ (fun k => k = b) w (.cells #[.int .i64 0, .int .i64 0, .int .i64 0] 52))
  clear h m1 m2 m3
  unfold stV
  generalize hV : (if r3 ≠ 0 then Value.agg #[.int .i64 0, .int .i64 0, .int .i64 0] else Value.agg #[.int .i64 v1, .int .i64 v2, .int .i64 v3]) = V
  have HV := Lib.hid hV
  clear hV
  go_enter Tryz.func81, Tryz.ntmps81
  go_wp2_with fail
  generalize (w.alloc (.cells #[.int .i64 0, .int .i64 0, .int .i64 0] 52)) = W1 at *
  refine (C1.out _ _ _ _ hRe).mono ?_; rintro e w2 ⟨A2, n2, c2, rfl, hR2, h2⟩
  have Z2 := Lib.hid (hZ.out.ch h2 hbn)
  have D2 := Lib.hid (hC.out.trans h2 (fun k _ h => h))
  clear hRe h2 hZ hC
  go_wp2_with fail
  refine (C2.out _ _ _ _ hR2).mono ?_; rintro e w3 ⟨A3, n3, c3, rfl, hR3, h3⟩
  have Z3 := Lib.hid (Z2.out.ch h3 hbn)
  have D3 := Lib.hid (D2.out.trans h3 (fun k _ h => h))
  clear hR2 h3 Z2 D2
  go_wp2_with fail
  refine (C3.out _ _ _ _ hR3).mono ?_; rintro e w4 ⟨A4, n4, c4, rfl, hR4, h4⟩
  have Z4 := Z3.out.ch h4 hbn
  have D4 := Lib.hid (D3.out.trans h4 (fun k _ h => h))
  clear hR3 h4 Z3 D3
  generalize hn : w.heap.size = N at *
  have z0 : w4.cell? ⟨N, 0, none⟩ = some (.int .i64 0) := by rw [Z4.cell]; rfl
  have z1 : w4.cell? ⟨N, 1, none⟩ = some (.int .i64 0) := by rw [Z4.cell]; rfl
  have z2 : w4.cell? ⟨N, 2, none⟩ = some (.int .i64 0) := by rw [Z4.cell]; rfl
  have f0 := Z4.free 0
  have f1 := Z4.free 1
  have f2 := Z4.free 2
  have ZZ := Lib.hid Z4
  have hR4' := Lib.hid hR4
  clear Z4
  go_wp2_with fail
  refine (C4.out _ _ _ _ hR4).mono ?_; rintro e w5 ⟨rfl, rfl⟩
  clear hR4
  have hcf : ∀ (u0 u1 u2 : Value), Ch (fun k => k = b) w (((w4.setCell ⟨N, 0, none⟩ u0).setCell ⟨N, 1, none⟩ u1).setCell ⟨N, 2, none⟩ u2) := by
    intro u0 u1 u2
    refine D4.out.trans (((Ch.set_ w4 ⟨N, 0, none⟩ u0).trans (Ch.set_ _ ⟨N, 1, none⟩ u1) (fun k _ h => h)).trans (Ch.set_ _ ⟨N, 2, none⟩ u2) (fun k _ h => h)) (fun k hk h => ?_)
    have h' : k = N := h
    omega
  have hrf : ∀ (u0 u1 u2 : Value), Re (((w4.setCell ⟨N, 0, none⟩ u0).setCell ⟨N, 1, none⟩ u1).setCell ⟨N, 2, none⟩ u2) b A4 n4 c4 l3 r3 := by
    intro u0 u1 u2
    obtain ⟨q1, q2, q3⟩ := hR4'.out
    exact ⟨((q1.far (p := ⟨N, 0, none⟩) (by show b ≠ N; omega) u0).far (p := ⟨N, 1, none⟩) (by show b ≠ N; omega) u1).far (p := ⟨N, 2, none⟩) (by show b ≠ N; omega) u2, ((q2.setCell (p := ⟨N, 0, none⟩) (by show b ≤ N; omega) u0).setCell (p := ⟨N, 1, none⟩) (by show b ≤ N; omega) u1).setCell (p := ⟨N, 2, none⟩) (by show b ≤ N; omega) u2, q3⟩
  have HC := Lib.hid hcf
  have HR := Lib.hid hrf
  clear hcf hrf D4 hR4'
  by_cases hr : r3 = 0
  · have tr : (r3 != 0) = false := by simp [hr]
    have hv := HV.out
    rw [if_neg (by simp [hr])] at hv
    subst hv
    clear HV
    go_wp2
    have zz := ((ZZ.out.set_ 0 (.int .i64 v1)).set_ 1 (.int .i64 v2)).set_ 2 (.int .i64 v3)
    have hc := HC.out (.int .i64 v1) (.int .i64 v2) (.int .i64 v3)
    have hr := HR.out (.int .i64 v1) (.int .i64 v2) (.int .i64 v3)
    generalize (((w4.setCell ⟨N, 0, none⟩ (.int .i64 v1)).setCell ⟨N, 1, none⟩ (.int .i64 v2)).setCell ⟨N, 2, none⟩ (.int .i64 v3)) = W9 at *
    have x0 : W9.cell? ⟨N, 0, none⟩ = some (.int .i64 v1) := by rw [zz.cell]; rfl
    have x1 : W9.cell? ⟨N, 1, none⟩ = some (.int .i64 v2) := by rw [zz.cell]; rfl
    have x2 : W9.cell? ⟨N, 2, none⟩ = some (.int .i64 v3) := by rw [zz.cell]; rfl
    exact bodyPost_ret (v := .agg #[.int .i64 v1, .int .i64 v2, .int .i64 v3]) (by simp [results, Tryz.results81, go_sem, x0, x1, x2]) rfl ⟨A4, n4, c4, rfl, hr, hc⟩
  · have tr : (r3 != 0) = true := by simp [hr]
    have hv := HV.out
    rw [if_pos hr] at hv
    subst hv
    clear HV
    go_wp2
    have zz := ((ZZ.out.set_ 0 (.int .i64 0)).set_ 1 (.int .i64 0)).set_ 2 (.int .i64 0)
    have hc := HC.out (.int .i64 0) (.int .i64 0) (.int .i64 0)
    have hr := HR.out (.int .i64 0) (.int .i64 0) (.int .i64 0)
    generalize (((w4.setCell ⟨N, 0, none⟩ (.int .i64 0)).setCell ⟨N, 1, none⟩ (.int .i64 0)).setCell ⟨N, 2, none⟩ (.int .i64 0)) = W9 at *
    have x0 : W9.cell? ⟨N, 0, none⟩ = some (.int .i64 0) := by rw [zz.cell]; rfl
    have x1 : W9.cell? ⟨N, 1, none⟩ = some (.int .i64 0) := by rw [zz.cell]; rfl
    have x2 : W9.cell? ⟨N, 2, none⟩ = some (.int .i64 0) := by rw [zz.cell]; rfl
    exact bodyPost_ret (v := .agg #[.int .i64 0, .int .i64 0, .int .i64 0]) (by simp [results, Tryz.results81, go_sem, x0, x1, x2]) rfl ⟨A4, n4, c4, rfl, hr, hc⟩
end Go.Proofs.YtpakmeegldgjmaaGreat
/- Layer 16 (dot): Get of a dot that was packed. -/
namespace Go.Proofs.YtpakmeegldgjmaaGreat
open Go.RowKit
set_option linter.unusedVariables false
set_option maxRecDepth 100000

theorem rnumR_putx {most x : Nat} (r : List UInt8) (h : x ≤ most) (h2 : x < 18446744073709551616) : rnumR most (vput x ++ r) 0 = (x, r, 0) := by
  unfold rnumR
  rw [vget_put x r h2]
  simp
  omega
set_option maxHeartbeats 1000000 in
theorem dget_put (d i s : Int) (hq : dotB d i s = true) (R : List UInt8) (w : World) (b : Nat) (A : Option Addr) (n c : Nat) (h : Re w b A n c (dotP d i s ++ R) 0) :
    Calls Tryz.prog 79 #[.pointer (some ⟨b, 0, none⟩)] w (REnd w b (R, 0) (dotV d i s)) := by
  have hB : ∃ D I S : Nat, d = D ∧ i = I ∧ s = S ∧ D < 64 ∧ I ≤ 1048576 ∧ S ≤ 4294967296 := by
    have hb := hq
    simp [dotB, actB] at hb
    exact ⟨d.toNat, i.toNat, s.toNat, by omega, by omega, by omega, by omega, by omega, by omega⟩
  have hP : dotP d i s = vput d.toNat ++ (vput i.toNat ++ vput s.toNat) := by unfold dotP; rw [if_pos hq]
  have C5 := Lib.hid (fun w => right_any d i s w)
  rw [hq] at C5
  obtain ⟨D, I, S, rfl, rfl, rfl, b1, b2, b3⟩ := hB
  rw [hP] at h
  simp only [Int.toNat_natCast, List.append_assoc] at h
  clear hP hq
  have C1 := Lib.hid (fun w A n c h => rnum_any w b A n c (vput D ++ (vput I ++ (vput S ++ R))) 0 63 h)
  have C2 := Lib.hid (fun w A n c h => rnum_any w b A n c (vput I ++ (vput S ++ R)) 0 1048576 h)
  have C3 := Lib.hid (fun w A n c h => rnum_any w b A n c (vput S ++ R) 0 4294967296 h)
  have C4 := Lib.hid (fun w A n c h => rerr_any w b A n c R 0 h)
  rw [rnumR_putx _ (by omega) (by omega)] at C1 C2 C3
  have y1 : IntKind.i64.wrap (D : Int) = (D : Int) := IntWalk.i64_in _ (by omega)
  have y2 : IntKind.i64.wrap (I : Int) = (I : Int) := IntWalk.i64_in _ (by omega)
  have y3 : IntKind.i64.wrap (S : Int) = (S : Int) := IntWalk.i64_in _ (by omega)
  have hlt := h.1.lt
  have hbn : w.heap.size ≠ b := by omega
  have hZ := Lib.hid (Whole.new w 50 #[.int .i64 0, .int .i64 0, .int .i64 0])
  have hRe : Re (w.alloc (.cells #[.int .i64 0, .int .i64 0, .int .i64 0] 50)) b A n c (vput D ++ (vput I ++ (vput S ++ R))) 0 := ⟨h.1.alloc _, h.2.1.alloc (by omega) _, h.2.2⟩
  have hC := Lib.hid (Ch.alloc_ (fun k => k = b) w (.cells #[.int .i64 0, .int .i64 0, .int .i64 0] 50))
  have hsz : w.heap.size < (w.alloc (.cells #[.int .i64 0, .int .i64 0, .int .i64 0] 50)).heap.size := by simp
  clear h b1 b2 b3
  unfold dotV at C5 ⊢
  go_enter Tryz.func79, Tryz.ntmps79
  go_wp2_with fail
  generalize (w.alloc (.cells #[.int .i64 0, .int .i64 0, .int .i64 0] 50)) = W1 at *
  refine (C1.out _ _ _ _ hRe).mono ?_; rintro e w2 ⟨A2, n2, c2, rfl, hR2, h2⟩
  have Z2 := Lib.hid (hZ.out.ch h2 hbn)
  have D2 := Lib.hid (hC.out.trans h2 (fun k _ h => h))
  clear hRe h2 hZ hC
  go_wp2_with fail
  refine (C2.out _ _ _ _ hR2).mono ?_; rintro e w3 ⟨A3, n3, c3, rfl, hR3, h3⟩
  have Z3 := Lib.hid (Z2.out.ch h3 hbn)
  have D3 := Lib.hid (D2.out.trans h3 (fun k _ h => h))
  clear hR2 h3 Z2 D2
  go_wp2_with fail
  refine (C3.out _ _ _ _ hR3).mono ?_; rintro e w4 ⟨A4, n4, c4, rfl, hR4, h4⟩
  have hz4 := hR4.1.lt
  have Z4 := Lib.hid ((Z3.out.ch h4 hbn).alloc (.cells #[.int .i64 D, .int .i64 I, .int .i64 S] 50))
  have hlz := (Z3.out.ch h4 hbn).lt
  have M4 := Lib.hid (Whole.new w4 50 #[.int .i64 D, .int .i64 I, .int .i64 S])
  have D4 := Lib.hid ((D3.out.trans h4 (fun k _ h => h)).trans (Ch.alloc_ (fun k => k = b) w4 (.cells #[.int .i64 D, .int .i64 I, .int .i64 S] 50)) (fun k _ h => h))
  have R4 : Re (w4.alloc (.cells #[.int .i64 D, .int .i64 I, .int .i64 S] 50)) b A4 n4 c4 R 0 := ⟨hR4.1.alloc _, hR4.2.1.alloc (by omega) _, hR4.2.2⟩
  clear hR3 h4 Z3 D3 hR4
  go_wp2_with fail
  refine (C4.out _ _ _ _ R4).mono ?_; rintro e w5 ⟨rfl, rfl⟩
  generalize (w4.alloc (.cells #[.int .i64 D, .int .i64 I, .int .i64 S] 50)) = w5 at *
  generalize hn : w.heap.size = N at *
  generalize w4.heap.size = m at *
  have q0 : w5.cell? ⟨m, 0, none⟩ = some (.int .i64 D) := by rw [M4.out.cell]; rfl
  have q1 : w5.cell? ⟨m, 1, none⟩ = some (.int .i64 I) := by rw [M4.out.cell]; rfl
  have q2 : w5.cell? ⟨m, 2, none⟩ = some (.int .i64 S) := by rw [M4.out.cell]; rfl
  go_wp2_with fail
  refine (C5.out _).mono ?_; rintro e w6 ⟨rfl, b6⟩
  have R6 : Re w6 b A4 n4 c4 R 0 := ⟨R4.1.below b6 R4.1.lt, R4.2.1.below (below_of_le b6 (by have := R4.1.lt; omega)), R4.2.2⟩
  have Z6 := Lib.hid (Z4.out.below b6 Z4.out.lt)
  have M6 := Lib.hid (M4.out.below b6 M4.out.lt)
  have D6 := Lib.hid (D4.out.trans (below_ch b6) (fun k _ h => h))
  clear q0 q1 q2 R4 Z4 M4 D4 b6 C1 C2 C3 C5
  go_wp2_with fail
  refine (C4.out _ _ _ _ R6).mono ?_; rintro e w7 ⟨rfl, rfl⟩
  have q0 : w6.cell? ⟨m, 0, none⟩ = some (.int .i64 D) := by rw [M6.out.cell]; rfl
  have q1 : w6.cell? ⟨m, 1, none⟩ = some (.int .i64 I) := by rw [M6.out.cell]; rfl
  have q2 : w6.cell? ⟨m, 2, none⟩ = some (.int .i64 S) := by rw [M6.out.cell]; rfl
  have z0 : w6.cell? ⟨N, 0, none⟩ = some (.int .i64 0) := by rw [Z6.out.cell]; rfl
  have z1 : w6.cell? ⟨N, 1, none⟩ = some (.int .i64 0) := by rw [Z6.out.cell]; rfl
  have z2 : w6.cell? ⟨N, 2, none⟩ = some (.int .i64 0) := by rw [Z6.out.cell]; rfl
  have f0 := Z6.out.free 0
  have f1 := Z6.out.free 1
  have f2 := Z6.out.free 2
  have hmN : m ≠ N := by omega
  have R6' := Lib.hid R6
  clear R6
  go_wp2
  have zz := ((Z6.out.set_ 0 (.int .i64 D)).set_ 1 (.int .i64 I)).set_ 2 (.int .i64 S)
  have hc : Ch (fun k => k = b) w (((w6.setCell ⟨N, 0, none⟩ (.int .i64 D)).setCell ⟨N, 1, none⟩ (.int .i64 I)).setCell ⟨N, 2, none⟩ (.int .i64 S)) := by
    refine D6.out.trans (((Ch.set_ w6 ⟨N, 0, none⟩ _).trans (Ch.set_ _ ⟨N, 1, none⟩ _) (fun k _ h => h)).trans (Ch.set_ _ ⟨N, 2, none⟩ _) (fun k _ h => h)) (fun k hk h => ?_)
    have h' : k = N := h
    omega
  have hr : Re (((w6.setCell ⟨N, 0, none⟩ (.int .i64 D)).setCell ⟨N, 1, none⟩ (.int .i64 I)).setCell ⟨N, 2, none⟩ (.int .i64 S)) b A4 n4 c4 R 0 := by
    obtain ⟨q1, q2, q3⟩ := R6'.out
    exact ⟨((q1.far (p := ⟨N, 0, none⟩) (by show b ≠ N; omega) _).far (p := ⟨N, 1, none⟩) (by show b ≠ N; omega) _).far (p := ⟨N, 2, none⟩) (by show b ≠ N; omega) _, ((q2.setCell (p := ⟨N, 0, none⟩) (by show b ≤ N; omega) _).setCell (p := ⟨N, 1, none⟩) (by show b ≤ N; omega) _).setCell (p := ⟨N, 2, none⟩) (by show b ≤ N; omega) _, q3⟩
  generalize (((w6.setCell ⟨N, 0, none⟩ (.int .i64 D)).setCell ⟨N, 1, none⟩ (.int .i64 I)).setCell ⟨N, 2, none⟩ (.int .i64 S)) = W9 at *
  have x0 : W9.cell? ⟨N, 0, none⟩ = some (.int .i64 D) := by rw [zz.cell]; rfl
  have x1 : W9.cell? ⟨N, 1, none⟩ = some (.int .i64 I) := by rw [zz.cell]; rfl
  have x2 : W9.cell? ⟨N, 2, none⟩ = some (.int .i64 S) := by rw [zz.cell]; rfl
  exact bodyPost_ret (v := .agg #[.int .i64 D, .int .i64 I, .int .i64 S]) (by simp [results, Tryz.results79, go_sem, x0, x1, x2]) rfl ⟨A4, n4, c4, rfl, hr, hc⟩
end Go.Proofs.YtpakmeegldgjmaaGreat
/- Layer 5 (pack): the writer's flags. -/
namespace Go.Proofs.YtpakmeegldgjmaaGreat
open Go.RowKit
set_option linter.unusedVariables false
set_option maxRecDepth 100000

/-- Flags as a number, the first j of them. -/
def flV (fl : List Bool) : Nat → Nat
  | 0 => 0
  | j + 1 => flV fl j + (if j < 8 ∧ fl.getD j false = true then 2 ^ j else 0)
theorem flV_lt (fl : List Bool) : ∀ j, j ≤ 8 → flV fl j < 2 ^ j
  | 0, _ => by simp [flV]
  | j + 1, h => by
    have ih := flV_lt fl j (by omega)
    have e : 2 ^ (j + 1) = 2 ^ j + 2 ^ j := by rw [Nat.pow_succ]; omega
    simp only [flV]
    split <;> omega
theorem flV_more (fl : List Bool) : ∀ j, 8 ≤ j → flV fl j = flV fl 8
  | 0, h => by omega
  | j + 1, h => by
    by_cases hj : j = 7
    · subst hj; rfl
    · simp only [flV]
      rw [if_neg (by omega), Nat.add_zero]
      exact flV_more fl j (by omega)
theorem flV_256 (fl : List Bool) (j : Nat) : flV fl j < 256 := by
  by_cases h : j ≤ 8
  · have := flV_lt fl j h
    have : 2 ^ j ≤ 2 ^ 8 := Nat.pow_le_pow_right (by omega) h
    omega
  · rw [flV_more fl j (by omega)]
    exact flV_lt fl 8 (by omega)
def flB (fl : List Bool) : UInt8 := UInt8.ofNat (flV fl fl.length)
def tv (l : List Bool) : List Value := l.map Value.bool
theorem tv_get (l : List Bool) (j : Nat) (h : j < l.length) : (tv l)[j]? = some (.bool (l.getD j false)) := by
  simp [tv, List.getD, List.getElem?_eq_getElem h]
theorem flags_or : ∀ j : Fin 8, ∀ c : Fin 128, c.1 < 2 ^ j.1 → bits .or .u8 (c.1 : Int) ((2 ^ j.1 : Nat) : Int) = ((c.1 + 2 ^ j.1 : Nat) : Int) := by decide +kernel
theorem own_ne_whole {w : World} {base b n c : Nat} {A : Option Addr} {l : List UInt8} {cs : Array Value} (ho : Own w base 5 1 A n c (bv l)) (hw : Whole w b 65 cs) : bl A ≠ some b := by
  intro e
  rcases ho.1.2 with ⟨hv, _⟩ | ⟨g, cap, cur, hv, h1, h2, h3⟩
  · injection hv with hA
    subst hA
    simp [bl] at e
  · injection hv with hA
    subst hA
    simp [bl] at e
    subst e
    have hw' : w.heap[g]? = some _ := hw
    rw [h2] at hw'
    simp at hw'
set_option maxHeartbeats 1000000 in
theorem wflags_any (w : World) (base b : Nat) (A : Option Addr) (c : Nat) (l : List UInt8) (FA : Option Addr) (n fc B : Nat) (fl : List Bool) (h : Wr w base b A c l) (hbase : base ≤ w.heap.size) (hl : l.length ≤ 1000000) (hr : Rd w B 1 FA n (tv fl)) (hn : n ≤ 1000000) :
    Calls Tryz.prog 63 #[.pointer (some ⟨b, 0, none⟩), .slice FA n fc] w (WEnd w base b A (l ++ [flB fl])) := by
  have hlen : fl.length = n := by have := hr.len; simpa [tv] using this
  obtain ⟨i0, hi, hz0, hz1, hz2⟩ := info_parts Tryz.info_by
  have h0 := Lib.hid h
  obtain ⟨hb, hw, ho⟩ := h
  have hc : w.cell? ⟨b, 0, none⟩ = some (.slice A l.length c) := by rw [hw.cell]; rfl
  have hf := hw.free 0
  have hlt := hw.lt
  go_enter Tryz.func63, Tryz.ntmps63
  go_wp2
  go_loop [5, 12] (fun x i => ∃ j : Nat, j ≤ n ∧ i = .int .i64 j ∧ x = .int .u8 ((flV fl j : Nat) : Int)) (fun _ i => n - (intOf i).toNat)
  case atStart => exact ⟨0, by omega, rfl, rfl⟩
  case round =>
    obtain ⟨j, hj, rfl, rfl⟩ := hrel
    by_cases hlt2 : j < n
    · obtain ⟨g, o, u, rfl, _, hu, hcell⟩ := hr.at_ hlt2
      rw [tv_get fl j (by omega)] at hu
      injection hu with hu
      subst hu
      have hs : flV fl (j + 1) = flV fl j + (if j < 8 ∧ fl.getD j false = true then 2 ^ j else 0) := rfl
      have hv := flV_256 fl j
      cases hbit : fl.getD j false
      · rw [hbit] at hcell hs
        rw [if_neg (by simp)] at hs
        go_wp2
        go_round
        case rel => exact ⟨j + 1, by omega, by go_num, by rw [hs]; rfl⟩
        case measure => simp [intOf]; omega
      · rw [hbit] at hcell hs
        by_cases h8 : j < 8
        · rw [if_pos ⟨h8, rfl⟩] at hs
          have hlo := flV_lt fl j (by omega)
          have hlo2 : flV fl j < 128 := by have : 2 ^ j ≤ 2 ^ 7 := Nat.pow_le_pow_right (by omega) (by omega); omega
          have hor := flags_or ⟨j, h8⟩ ⟨flV fl j, hlo2⟩ hlo
          simp only at hor
          have hc0 : ((2 ^ j : Nat) : Int) = (2 : Int) ^ j := by simp
          have hm : (2 : Int) ^ j % 256 = (2 : Int) ^ j := by
            have : 2 ^ j ≤ 2 ^ 7 := Nat.pow_le_pow_right (by omega) (by omega)
            rw [← hc0]
            omega
          rw [hc0, ← hs] at hor
          go_wp2
          go_round
          case rel => exact ⟨j + 1, by omega, by go_num, by rw [hs]; simp⟩
          case measure => simp [intOf]; omega
        · rw [if_neg (by omega)] at hs
          go_wp2
          go_round
          case rel => exact ⟨j + 1, by omega, by go_num, by rw [hs]; rfl⟩
          case measure => simp [intOf]; omega
    · obtain rfl : j = n := by omega
      have hF : flV fl j = (flB fl).toNat := by
        have := flV_256 fl fl.length
        simp only [flB, hlen, UInt8.toNat_ofNat']
        rw [hlen] at this
        omega
      rw [hF]
      have hbA := own_ne_whole ho hw
      have ho1 := Lib.hid (ho.alloc (.cells #[.int .u8 ((flB fl).toNat : Int)] 5))
      have hw1 := Lib.hid (hw.alloc (.cells #[.int .u8 ((flB fl).toNat : Int)] 5))
      have hAb : ∀ g, bl A = some g → base ≤ g ∧ g < w.heap.size := fun g hg => ho.block_lt g (by rw [ownBlock_bl]; exact hg)
      have hbv : bv l ++ [Value.int .u8 ((flB fl).toNat : Int)] = bv (l ++ [flB fl]) := by simp [bv]
      clear ho hF
      go_wp2_with (
        at_builtin
        refine wpList_append_rdn (P := Tryz.prog) _ (rfl) (.tmp 32) (.tmp 34) 24 rfl base 5 i0 (.int .u8 0) 1 1 Tryz.underlying24 hi hz0 hz1 hz2 rfl (by decide) (by decide) A l.length c (bv l) rfl ho1.out (w.heap.size + 1) _ 1 1 [.int .u8 ((flB fl).toNat : Int)] rfl (Rd.fresh w #[.int .u8 ((flB fl).toNat : Int)] 5 1 rfl) (by intro u hu; simp at hu; subst hu; rfl) (by omega) (by simp; omega) ?_
        intro A2 c2 w2 o2 g2 n2
        rw [hbv] at o2
        have hc2 := grown_ch g2
        have hw2 := hw1.out.ch hc2 (by intro e; exact hbA e.symm)
        have hcc : w2.cell? ⟨b, 0, none⟩ = some (.slice A l.length c) := by rw [hw2.cell]; rfl
        have hff := hw2.free 0
        have hchain := (Ch.alloc_ (fun k => some k = bl A) w (.cells #[.int .u8 ((flB fl).toNat : Int)] 5)).trans hc2 (fun k _ h => h)
        have hsz : w.heap.size ≤ w2.heap.size := hchain.size
        have n2' : ∀ g, bl A2 = some g → bl A = some g ∨ w.heap.size ≤ g := by
          intro g hg
          rcases n2 with h | h
          · exact .inl (h ▸ hg)
          · rw [h] at hg
            simp at hg
            exact .inr (by omega)
        clear hw1 ho1 hc hf g2 n2 hc2)
      go_ret
      have hLL : l.length + 1 = (l ++ [flB fl]).length := by simp
      rw [hLL] at o2 ⊢
      generalize l ++ [flB fl] = L at *
      have hne : bl A2 ≠ some b := by
        intro e
        rcases n2' b e with h | h
        · exact hbA h
        · omega
      refine ⟨A2, c2, rfl, ⟨hb, ?_, o2.far (by rw [ownBlock_bl]; exact hne) _⟩, ?_, n2'⟩
      · have := hw2.set_ 0 (.slice A2 L.length c2)
        simpa using this
      · refine (hchain.mono (S' := fun k => k = b ∨ bl A = some k) (fun k _ h => .inr h.symm)).trans (Ch.set_ w2 ⟨b, 0, none⟩ _) (fun k _ e => .inl e)
end Go.Proofs.YtpakmeegldgjmaaGreat
/- Layer 5 (pack): the reader's Text, of a text that was packed. -/
namespace Go.Proofs.YtpakmeegldgjmaaGreat
open Go.RowKit
set_option linter.unusedVariables false
set_option maxRecDepth 100000

/-- 'string(b)' of bytes that read as s. -/
theorem bytes_str (A : Option Addr) (c B : Nat) (s : ByteArray) (w : World) (hr : Rd w B 1 A s.size (bv (sb s))) :
    (convert 24 9 (.slice A s.size c)).run Tryz.prog w = .ok (.string s) w := by
  rcases A with _ | a
  · have h0 : s.size = 0 := by
      rcases Nat.eq_zero_or_pos s.size with h | h
      · exact h
      · obtain ⟨b, o, e, _⟩ := hr.2 (by omega)
        cases e
    have hs : s = ByteArray.empty := by
      have : s.data.size = 0 := h0
      obtain ⟨d⟩ := s
      simp at this
      subst this
      rfl
    subst hs
    rw [run_convert_bytes_string w _ _ 5 none _ _ Tryz.underlying24 Tryz.underlying5 Tryz.underlying9]
    rfl
  · have h := run_convert_bytes_back (P := Tryz.prog) w 24 9 5 a c (sb s) Tryz.underlying24 Tryz.underlying5 Tryz.underlying9 (fun j hj => by
      obtain ⟨b, o, e, _, hc⟩ := hr.2 (by rw [sb_length] at hj; omega)
      injection e with e
      subst e
      have e0 : (⟨b, o, none⟩ : Addr).add j = ⟨b, o + j, none⟩ := by by_cases h : j = 0 <;> simp [Addr.add, h]
      rw [e0]
      exact hc j _ (by rw [bv_get?, List.getElem?_eq_getElem hj]; rfl))
    rw [sb_length] at h
    rw [h]
    simp [sb]
section
variable {P : Program} (t : TypeId) (ht : P.underlying t = some (.slice (P.elem t))) (hs : ∀ w, (sizeOf (P.elem t)).run P w = .ok 1 w)
include ht hs
theorem run_from_u (A : Option Addr) (n c k : Nat) (hk : k ≤ n) (w : World) :
    (Instr.slice t (.slice A n c) (some (.int .u64 k)) none none).run P w = .ok (.slice (cutA A c k) (n - k) (c - k)) w := by
  rw [run_slice_l w t A n c ht .u64 k (by omega) (by omega), hs]
  simp [sliced, cutA, Result.andThen]
theorem run_to_u (A : Option Addr) (n c k : Nat) (hk : k ≤ c) (w : World) :
    (Instr.slice t (.slice A n c) none (some (.int .u64 k)) none).run P w = .ok (.slice A k c) w := by
  rw [run_slice_h w t A n c ht .u64 k (by omega) (by omega), hs]
  simp [sliced, Result.andThen]
  intro _
  exact add0 A
end
set_option maxHeartbeats 1000000 in
theorem rtext_put (s : ByteArray) (R : List UInt8) (w : World) (b : Nat) (A : Option Addr) (n c m : Nat) (h : Re w b A n c (vput s.size ++ (sb s ++ R)) 0) (hm : s.size ≤ m) (hm2 : m ≤ 9223372036854775807) :
    Calls Tryz.prog 107 #[.pointer (some ⟨b, 0, none⟩), .int .i64 m] w (REnd w b (R, 0) (.string s)) := by
  have C0 := Lib.hid (rmay_any w b A n c _ 0 h)
  have cn := rnum_any w b A n c _ 0 m h
  rw [rnumR_putx _ hm (by omega)] at cn
  have CN := Lib.hid cn
  have hc0 := h.cell0
  have hc1 := h.cell1
  have t0 : ¬ ((m : Int) < 0) := by omega
  have y0 : IntKind.u64.wrap (m : Int) = (m : Int) := by rw [IntKind.wrap_u64]; omega
  have y1 : (m : Int) % 18446744073709551616 = (m : Int) := by omega
  have tt : ((0 : Int) == 0) = true := rfl
  rw [tt] at C0
  clear cn h
  go_enter Tryz.func107, Tryz.ntmps107
  go_wp2_with fail
  refine (C0.out).mono ?_; rintro e w1 ⟨rfl, rfl⟩
  go_wp2_with fail
  refine (CN.out).mono ?_; rintro e w2 ⟨A2, n2, c2, rfl, hR, h2⟩
  have hl := hR.len
  have hn2 : n2 = s.size + R.length := by rw [← hl, List.length_append, sb_length]
  have hc20 := hR.cell0
  have hc21 := hR.cell1
  have hnc := hR.2.2.1
  have hcm : c2 ≤ 9223372036854775807 := hR.2.2.2
  have hf0 := hR.1.free 0
  have t1 : decide ((n2 : Int) < (s.size : Int)) = false := by simp; omega
  have t2 : decide (n2 < s.size) = false := by simp; omega
  have t3 : ¬ n2 < s.size := by omega
  have y3 : IntKind.u64.wrap (n2 : Int) = (n2 : Int) := by rw [IntKind.wrap_u64]; omega
  have y4 : (n2 : Int) % 18446744073709551616 = (n2 : Int) := by omega
  have hs1 : ∀ w, (sizeOf (Tryz.prog.elem 24)).run Tryz.prog w = .ok 1 w := fun w => by kernel_rfl
  have hto := fun w => run_to_u (P := Tryz.prog) 24 (by kernel_rfl) hs1 A2 n2 c2 s.size (by omega) w
  have hfrom := fun w => run_from_u (P := Tryz.prog) 24 (by kernel_rfl) hs1 A2 n2 c2 s.size (by omega) w
  have hr2 : Rd w2 b 1 (cutA A2 c2 s.size) (n2 - s.size) (bv R) := by
    have := hR.2.1.cutA_ (k := s.size) (by omega) hnc
    rw [← bv_drop, List.drop_left' (sb_length s)] at this
    exact this
  have hr1 : Rd w2 b 1 A2 s.size (bv (sb s)) := by
    have := hR.2.1.front (k := s.size) (by omega)
    rw [← bv_take, List.take_left' (sb_length s)] at this
    exact this
  have hcv := bytes_str A2 c2 b s w2 hr1
  have HR := Lib.hid hR
  have hh : n2 - s.size ≤ c2 - s.size := by omega
  have hh2 : c2 - s.size ≤ maxLen := by simp only [maxLen]; omega
  have HC := Lib.hid h2
  clear hr1 hR h2 C0 CN hc0 hc1 hn2 hl hs1
  generalize cutA A2 c2 s.size = A3 at *
  generalize n2 - s.size = n3 at *
  generalize c2 - s.size = c3 at *
  go_wp2
  go_ret
  exact ⟨A3, n3, c3, rfl, HR.out.set0 hr2 hh hh2, HC.out.trans (Ch.set_ _ ⟨b, 0, none⟩ _) (fun k _ h => h)⟩
end Go.Proofs.YtpakmeegldgjmaaGreat
/- The openers of biscottilaw05.Part, by value and in slices. -/
namespace Go.Proofs.YtpakmeegldgjmaaGreat
open Go.ChangeShapes Go.WideShapes Go.ChangeAt Go.RowKit Go.Deep
set_option linter.unusedVariables false
set_option maxRecDepth 100000

/-- A part. -/
structure Pt where
  k : Int
  N : Nat
  S : ByteArray
  FA : Option Addr
  fn : Nat
  fc : Nat
  fl : List Bool
  most : Int
def PartsAt (w : World) (B : Nat) (A : Option Addr) (n : Nat) (f : Nat → Pt) : Prop :=
  0 < n → ∃ b o, A = some ⟨b, o, none⟩ ∧ b < B ∧ ∀ i, i < n → w.cell? ⟨b, o + i * 5, none⟩ = some (.int .i64 (f i).k) ∧ w.cell? ⟨b, o + i * 5 + 1, none⟩ = some (.int .u64 ((f i).N : Int)) ∧ w.cell? ⟨b, o + i * 5 + 2, none⟩ = some (.string (f i).S) ∧
    w.cell? ⟨b, o + i * 5 + 3, none⟩ = some (.slice (f i).FA (f i).fn (f i).fc) ∧ w.cell? ⟨b, o + i * 5 + 4, none⟩ = some (.int .i64 (f i).most)
theorem PartsAt.below {w w' : World} {B n : Nat} {A : Option Addr} {f : Nat → Pt} (h : PartsAt w B A n f) (hb : Below B w w') : PartsAt w' B A n f := fun hn => by
  obtain ⟨b, o, e, hlt, hc⟩ := h hn
  refine ⟨b, o, e, hlt, fun i hi => ?_⟩
  obtain ⟨h0, h1, h2, h3, h4⟩ := hc i hi
  refine ⟨?_, ?_, ?_, ?_, ?_⟩
  all_goals
    rw [hb.cell (by simpa using hlt)]
    assumption
end Go.Proofs.YtpakmeegldgjmaaGreat
/- Layer 5 (pack): the reader's Int and Flags, of what was packed; the document's SameFlags. -/
namespace Go.Proofs.YtpakmeegldgjmaaGreat
open Go.RowKit
set_option linter.unusedVariables false
set_option maxRecDepth 100000

theorem rint_put (x : Int) (R : List UInt8) (w : World) (b : Nat) (A : Option Addr) (n c : Nat) (m : Int) (h : Re w b A n c (vput (foldI x).toNat ++ R) 0) (h0 : 0 ≤ m) (h1 : m ≤ 9223372036854775807) (hx1 : -m ≤ x) (hx2 : x ≤ m) :
    Calls Tryz.prog 108 #[.pointer (some ⟨b, 0, none⟩), .int .i64 m] w (REnd w b (R, 0) (.int .i64 x)) := by
  have C0 := Lib.hid (rmay_any w b A n c _ 0 h)
  have hlt := foldI_lt x (by omega) (by omega)
  have hnn := foldI_nn x
  have hl := h.len
  have cg := getInt_any A n c w.heap.size _ w (by have := h.2.2; have hm : maxLen = 9223372036854775807 := rfl; omega) (h.2.1.more (Nat.le_of_lt h.1.lt))
  rw [vget_put _ _ (by omega)] at cg
  simp only at cg
  rw [Int.toNat_of_nonneg hnn, unfold_fold] at cg
  have CG := Lib.hid cg
  have hc0 := h.cell0
  have hf0 := h.1.free 0
  have hkn : (vput (foldI x).toNat).length ≤ n := by rw [← hl, List.length_append]; omega
  have hr := h.2.1
  have hnc := h.2.2.1
  have hcm : c ≤ 9223372036854775807 := h.2.2.2
  have H := Lib.hid h
  have t0 : ¬ (m < 0) := by omega
  have t1 : decide (m < x) = false := by simp; omega
  have e2 : IntKind.i64.wrap (-m) = -m := IntWalk.i64_in _ (by omega)
  have t2 : decide (x < -m) = false := by simp; omega
  have tt : ((0 : Int) == 0) = true := rfl
  rw [tt] at C0
  have hs1 : ∀ w, (sizeOf (Tryz.prog.elem 24)).run Tryz.prog w = .ok 1 w := fun w => by kernel_rfl
  have hfrom := fun w => run_from (P := Tryz.prog) 24 (by kernel_rfl) hs1 A n c (vput (foldI x).toNat).length hkn w
  have hr2 : Rd w b 1 (cutA A c (vput (foldI x).toNat).length) (n - (vput (foldI x).toNat).length) (bv R) := by
    have := hr.cutA_ hkn hnc
    rw [← bv_drop, List.drop_left' rfl] at this
    exact this
  have hh : n - (vput (foldI x).toNat).length ≤ c - (vput (foldI x).toNat).length := by omega
  have hh2 : c - (vput (foldI x).toNat).length ≤ maxLen := by simp only [maxLen]; omega
  clear cg h hr hl hs1 hlt hnn
  generalize (vput (foldI x).toNat).length = k at *
  generalize cutA A c k = A2 at *
  generalize n - k = n2 at *
  generalize c - k = c2 at *
  go_enter Tryz.func108, Tryz.ntmps108
  go_wp2_with fail
  refine (C0.out).mono ?_; rintro e w1 ⟨rfl, rfl⟩
  go_wp2_with fail
  refine (CG.out).mono ?_; rintro e w1 ⟨rfl, rfl⟩
  go_wp2
  go_ret
  exact ⟨A2, n2, c2, rfl, H.out.set0 hr2 hh hh2, Ch.set_ _ ⟨b, 0, none⟩ _⟩
end Go.Proofs.YtpakmeegldgjmaaGreat
/- Layer 5 (pack): the reader's Flags, of flags that were packed. -/
namespace Go.Proofs.YtpakmeegldgjmaaGreat
open Go.RowKit
set_option linter.unusedVariables false
set_option maxRecDepth 100000

theorem flV_bit (fl : List Bool) : ∀ m j, j < m → m ≤ 8 → flV fl m / 2 ^ j % 2 = if fl.getD j false = true then 1 else 0
  | 0, j, h, _ => by omega
  | m + 1, j, h, h8 => by
    have hlt := flV_lt fl m (by omega)
    simp only [flV]
    by_cases hj : j = m
    · subst hj
      by_cases hb : fl.getD j false = true
      · rw [if_pos ⟨by omega, hb⟩, if_pos hb, Nat.add_div_right _ (Nat.two_pow_pos j), Nat.div_eq_of_lt hlt]
      · rw [if_neg (fun h => hb h.2), if_neg hb, Nat.add_zero, Nat.div_eq_of_lt hlt]
    · have ih := flV_bit fl m j (by omega) (by omega)
      split
      · have e : 2 ^ m = 2 ^ j * (2 ^ (m - j - 1) * 2) := by
          rw [← Nat.pow_succ, ← Nat.pow_add]
          congr 1
          omega
        rw [e, Nat.add_mul_div_left _ _ (Nat.two_pow_pos j), Nat.add_mul_mod_self_right]
        exact ih
      · rw [Nat.add_zero]
        exact ih
theorem flV_min (fl : List Bool) : flV fl fl.length = flV fl (min fl.length 8) := by
  by_cases h : fl.length ≤ 8
  · rw [Nat.min_eq_left h]
  · rw [Nat.min_eq_right (by omega), flV_more fl _ (by omega)]
theorem flB_toNat (fl : List Bool) : (flB fl).toNat = flV fl (min fl.length 8) := by
  rw [← flV_min]
  have := flV_256 fl fl.length
  simp only [flB, UInt8.toNat_ofNat']
  omega
theorem and1_u8 : ∀ x : Fin 256, bits .and .u8 (x.1 : Int) 1 = ((x.1 % 2 : Nat) : Int) := by decide +kernel
/-- The flags read so far. -/
def fcL (fl : List Bool) (k j : Nat) : List Value := tv (fl.take j) ++ List.replicate (k - j) (.bool false)
theorem fcL_zero (fl : List Bool) (k : Nat) : fcL fl k 0 = List.replicate k (.bool false) := by simp [fcL, tv]
theorem fcL_full (fl : List Bool) (k : Nat) : fcL fl k k = tv (fl.take k) := by simp [fcL]
theorem fcL_at (fl : List Bool) (k j : Nat) (h : j < k) (hk : k ≤ fl.length) : (fcL fl k j)[j]? = some (.bool false) := by
  have hl : (tv (fl.take j)).length = j := by simp [tv]; omega
  rw [fcL, List.getElem?_append_right (by omega), hl, Nat.sub_self, List.getElem?_replicate, if_pos (by omega)]
theorem fcL_set (fl : List Bool) (k j : Nat) (h : j < k) (hk : k ≤ fl.length) : (fcL fl k j).set j (.bool (fl.getD j false)) = fcL fl k (j + 1) := by
  have hl : (tv (fl.take j)).length = j := by simp [tv]; omega
  unfold fcL
  rw [List.set_append_right _ _ (by omega), hl, Nat.sub_self]
  obtain ⟨r, hr⟩ : ∃ r, k - j = r + 1 := ⟨k - j - 1, by omega⟩
  rw [hr, List.replicate_succ, List.set_cons_zero, show k - (j + 1) = r by omega]
  have ht : fl.take (j + 1) = fl.take j ++ [fl.getD j false] := by
    rw [List.take_add_one, List.getElem?_eq_getElem (show j < fl.length by omega)]
    simp [List.getD, List.getElem?_eq_getElem (show j < fl.length by omega)]
  rw [ht]
  simp [tv]
theorem Tryz.info_bool : (Tryz.prog.info? 4).map (fun i => (i.zero, i.size, i.bytes)) = some (some (.bool false), 1, 1) := by kernel_rfl
/-- The same, the new slice's own block told. -/
def FlEnd2 (w : World) (b : Nat) (R : List UInt8) (k : Nat) (fl : List Bool) (e : Ending) (w' : World) : Prop :=
  ∃ A n c, e = .returned (.slice (some ⟨w.heap.size, 0, none⟩) k k) ∧ Re w' b A n c R 0 ∧ Own w' w.heap.size 4 1 (some ⟨w.heap.size, 0, none⟩) k k (tv (fl.take k)) ∧ Ch (fun g => g = b) w w'
set_option maxHeartbeats 2000000 in
theorem rflags_own (fl : List Bool) (R : List UInt8) (w : World) (b : Nat) (A : Option Addr) (n c k : Nat) (h : Re w b A n c (flB fl :: R) 0) (hk : k = min fl.length 8) :
    Calls Tryz.prog 82 #[.pointer (some ⟨b, 0, none⟩), .int .i64 k] w (FlEnd2 w b R k fl) := by
  obtain ⟨i0, hi, hz0, hz1, hz2⟩ : ∃ i, Tryz.prog.info? 4 = some i ∧ i.zero = some (.bool false) ∧ i.size = 1 ∧ i.bytes = 1 := by
    have h := Tryz.info_bool
    cases hi : Tryz.prog.info? 4 with
    | none => rw [hi] at h; cases h
    | some i =>
      rw [hi] at h
      simp at h
      exact ⟨i, rfl, h.1, h.2.1, h.2.2⟩
  have C0 := Lib.hid (rmay_any w b A n c _ 0 h)
  have tt : ((0 : Int) == 0) = true := rfl
  rw [tt] at C0
  have hl := h.len
  simp only [List.length_cons] at hl
  have hk8 : k ≤ 8 := by omega
  have hkl : k ≤ fl.length := by omega
  have hF := flB_toNat fl
  rw [← hk] at hF
  have hVlt := flV_lt fl k hk8
  have h256 := (flB fl).toNat_lt
  obtain ⟨b1, o1, rfl, hb1, hcell⟩ := h.2.1.byte (l := flB fl :: R) (k := 0) (by omega)
  simp only [List.getD_cons_zero, Nat.add_zero] at hcell
  have hbit := fun j (hj : j < k) => flV_bit fl k j hj hk8
  rw [hF] at hcell h256
  generalize flV fl k = V at *
  have hc0 := h.cell0
  have hc1 := h.cell1
  have hf1 := h.1.free 1
  have hlt := h.1.lt
  have q1 : ¬ ((k : Int) < 0) := by omega
  have q2 : ¬ ((8 : Int) < (k : Int)) := by omega
  have q2' : decide ((8 : Int) < (k : Int)) = false := by simp; omega
  have q3 : ((n : Int) == 0) = false := by simp; omega
  have q4 : V / 2 ^ k = 0 := Nat.div_eq_of_lt hVlt
  have q4' : (V : Int) / 2 ^ k = 0 := by
    have : ((V / 2 ^ k : Nat) : Int) = 0 := by rw [q4]; rfl
    simpa using this
  have q5 : 0 < n := by omega
  have H := Lib.hid h
  clear h hk hF hl
  go_enter Tryz.func82, Tryz.ntmps82
  go_wp2_with fail
  refine (C0.out).mono ?_; rintro e w1 ⟨rfl, rfl⟩
  go_wp2_with (at_make; refine wpList_make_full _ rfl _ _ 140 rfl w.heap.size 4 i0 (.bool false) 1 Tryz.underlying140 hi hz0 hz1 _ _ _ _ k rfl rfl (by omega) (by omega) (by rw [hz2]; omega) (by simp only [maxLen]; omega) (Nat.le_refl _) ?_; intro w1 hown hgrow)
  have hmade : w1.ownsRow w.heap.size 4 1 (.slice (some ⟨w.heap.size, 0, none⟩) k k) k (fcL fl k 0) := by
    rw [fcL_zero]
    rw [show (Value.bool false).cells = #[Value.bool false] from rfl, Nat.mul_one, toList_madeCells_one] at hown
    exact hown
  have hb1' : Below w.heap.size w w1 := (Below.refl _ _).grown hgrow (Nat.le_refl _) (by simp)
  have hsz : w.heap.size < w1.heap.size := (hmade.lt w.heap.size rfl).2
  have R1 := Lib.hid (H.out.1.below hb1' hlt)
  clear hown hgrow hi hz0 hz1 hz2
  go_loopw [53] (fun i wr => ∃ j : Nat, j ≤ k ∧ i = .int .i64 j ∧ wr.ownsRow w.heap.size 4 1 (.slice (some ⟨w.heap.size, 0, none⟩) k k) k (fcL fl k j) ∧ Below w.heap.size w wr) (fun i _ => k - (intOf i).toNat)
  case atStart => exact ⟨0, Nat.zero_le _, rfl, hmade, hb1'⟩
  case round =>
    obtain ⟨j, hj, rfl, hown, hb⟩ := hrel
    have hwb := H.out.1.below hb hlt
    have hcb : wr.cell? ⟨b, 0, none⟩ = some (.slice (some ⟨b1, o1, none⟩) n c) := by rw [hwb.cell]; rfl
    have hfb := hwb.free 0
    have hcv : wr.cell? ⟨b1, o1, none⟩ = some (.int .u8 (V : Int)) := by rw [hb.cell (by simp only; omega)]; exact hcell
    by_cases hltj : j < k
    · have hcj : wr.cell? ⟨w.heap.size, j, none⟩ = some (.bool false) := by rw [hown.cellAt j (by omega), fcL_at fl k j hltj hkl]
      have hfj : wr.frozen? ⟨w.heap.size, j, none⟩ = false := hown.frozenAt j
      have hst := hown.stored j (.bool (fl.getD j false))
      rw [fcL_set fl k j hltj hkl] at hst
      have HST := Lib.hid hst
      have hbj := hbit j hltj
      have hVj : V / 2 ^ j < 256 := Nat.lt_of_le_of_lt (Nat.div_le_self _ _) (by omega)
      have hand := and1_u8 ⟨V / 2 ^ j, hVj⟩
      simp only at hand
      rw [hbj] at hand
      clear hst
      cases hbl : fl.getD j false
      · rw [hbl] at hand HST
        simp only [Bool.false_eq_true, if_false] at hand
        have hand' : bits .and .u8 ((V : Int) / 2 ^ j) 1 = 0 := by simpa using hand
        go_wp2
        go_roundw
        case rel => exact ⟨j + 1, by omega, by go_num, HST.out.1, hb.grown HST.out.2 hb.size (by intro g hg; injection hg with hg; omega)⟩
        case measure => simp [intOf]; omega
      · rw [hbl] at hand HST
        simp only [if_true] at hand
        have hand' : bits .and .u8 ((V : Int) / 2 ^ j) 1 = 1 := by simpa using hand
        go_wp2
        go_roundw
        case rel => exact ⟨j + 1, by omega, by go_num, HST.out.1, hb.grown HST.out.2 hb.size (by intro g hg; injection hg with hg; omega)⟩
        case measure => simp [intOf]; omega
    · obtain rfl : j = k := by omega
      rw [fcL_full] at hown
      have hs1 : ∀ w, (sizeOf (Tryz.prog.elem 24)).run Tryz.prog w = .ok 1 w := fun w => by kernel_rfl
      have hfrom : ∀ w, (Instr.slice 24 (.slice (some ⟨b1, o1, none⟩) n c) (some (.int .i64 1)) none none).run Tryz.prog w = .ok (.slice (cutA (some ⟨b1, o1, none⟩) c 1) (n - 1) (c - 1)) w := fun w => run_from (P := Tryz.prog) 24 (by kernel_rfl) hs1 (some ⟨b1, o1, none⟩) n c 1 (by omega) w
      have hnc := H.out.2.2.1
      have hcm : c ≤ 9223372036854775807 := H.out.2.2.2
      have hR : Re wr b (some ⟨b1, o1, none⟩) n c (flB fl :: R) 0 := ⟨hwb, H.out.2.1.below (below_of_le hb (Nat.le_of_lt hlt)), H.out.2.2⟩
      have hr2 : Rd wr b 1 (cutA (some ⟨b1, o1, none⟩) c 1) (n - 1) (bv R) := by
        have := hR.2.1.cutA_ (k := 1) (by omega) hnc
        rw [← bv_drop] at this
        exact this
      have hh : n - 1 ≤ c - 1 := by omega
      have hh2 : c - 1 ≤ maxLen := by simp only [maxLen]; omega
      have HRR := Lib.hid hR
      have HO := Lib.hid hown
      clear hR hs1 hown
      generalize cutA (some ⟨b1, o1, none⟩) c 1 = A2 at *
      generalize n - 1 = n2 at *
      generalize c - 1 = c2 at *
      go_wp2
      go_ret
      refine ⟨A2, n2, c2, rfl, HRR.out.set0 hr2 hh hh2, ?_, (below_ch hb (S := fun g => g = b)).trans (Ch.set_ _ ⟨b, 0, none⟩ _) (fun k _ h => h)⟩
      have ho : Own wr w.heap.size 4 1 (some ⟨w.heap.size, 0, none⟩) j j (tv (fl.take j)) := ⟨HO.out, Nat.le_refl _, by simp only [maxLen]; omega⟩
      exact ho.far (by rw [ownBlock_bl]; simp [bl]; omega) _
end Go.Proofs.YtpakmeegldgjmaaGreat
/- Layer 4 (frame): slices.Grow of nil, slices.Concat of three slices of bytes. -/
namespace Go.Proofs.YtpakmeegldgjmaaGreat
open Go.RowKit
set_option linter.unusedVariables false
set_option maxRecDepth 100000

theorem Own.cut0 {w : World} {base n c : Nat} {e : TypeId} {A : Option Addr} {xs : List Value} (h : Own w base e 1 A n c xs) : Own w base e 1 A 0 c [] := by
  refine ⟨⟨by simp, ?_⟩, Nat.zero_le _, h.2.2⟩
  rcases h.1.2 with ⟨hv, hn⟩ | ⟨g, cap, cur, hv, h1, h2, h3, h4, h5, h6⟩
  · injection hv with hA hn' hc
    subst hA hc
    exact .inl ⟨rfl, rfl⟩
  · injection hv with hA hn' hc
    subst hA hc
    exact .inr ⟨g, c, cur, rfl, h1, h2, Nat.zero_le _, h4, h5, by simp⟩
/-- An empty slice of the call's own. -/
def GrE (w : World) (e : Ending) (w' : World) : Prop := ∃ A c, e = .returned (.slice A 0 c) ∧ Own w' w.heap.size 5 1 A 0 c [] ∧ Below w.heap.size w w'
theorem grow_any (n : Nat) (hn : n ≤ 100000000) (w : World) : Calls Tryz.prog 77 #[.slice none 0 0, .int .i64 n] w (GrE w) := by
  obtain ⟨i0, hi, hz0, hz1, hz2⟩ := info_parts Tryz.info_by
  have e1 : IntKind.i64.wrap (n : Int) = (n : Int) := IntWalk.i64_in _ (by omega)
  have hs1 : ∀ w, (sizeOf (Tryz.prog.elem 24)).run Tryz.prog w = .ok 1 w := fun w => by kernel_rfl
  by_cases h0 : n = 0
  · subst h0
    go_enter Tryz.func77, Tryz.ntmps77
    go_wp2
    go_ret
    exact ⟨none, 0, rfl, Own.nil_, Below.refl _ _⟩
  · have t1 : 0 < n := by omega
    have hto : ∀ w, (Instr.slice 24 (.slice none 0 0) none (some (.int .i64 0)) none).run Tryz.prog w = .ok (.slice none 0 0) w := fun w => run_to (P := Tryz.prog) 24 (by kernel_rfl) hs1 none 0 0 0 (by omega) w
    go_enter Tryz.func77, Tryz.ntmps77
    go_wp2_with (
      at_builtin
      refine wpList_append_zerosw _ rfl (.tmp 20) (.tmp 21) 24 3 rfl .i64 Tryz.underlying3 w.heap.size 5 i0 (.int .u8 0) 1 Tryz.underlying24 hi hz0 hz1 hz2 rfl rfl (by decide) none 0 0 [] rfl Own.nil_ n rfl (by omega) (Nat.le_refl _) ?_
      intro A3 c3 w3 o3 b3
      have hto2 : ∀ w, (Instr.slice 24 (.slice A3 (0 + n) c3) none (some (.int .i64 0)) none).run Tryz.prog w = .ok (.slice A3 0 c3) w := fun w => run_to (P := Tryz.prog) 24 (by kernel_rfl) hs1 A3 (0 + n) c3 0 (by omega) w
      simp only [Nat.zero_add] at o3 hto2 ⊢)
    go_ret
    exact ⟨A3, c3, rfl, o3.cut0, b3⟩
end Go.Proofs.YtpakmeegldgjmaaGreat
/- Layer 4 (frame): slices.Concat of three slices of bytes. -/
namespace Go.Proofs.YtpakmeegldgjmaaGreat
open Go.RowKit
set_option linter.unusedVariables false
set_option maxRecDepth 100000

def cat3 (l1 l2 l3 : List UInt8) (j : Nat) : List UInt8 := if j = 0 then [] else if j = 1 then l1 else if j = 2 then l1 ++ l2 else l1 ++ l2 ++ l3
set_option maxHeartbeats 2000000 in
theorem concat3_any (g : Nat) (A1 A2 A3 : Option Addr) (n1 n2 n3 c1 c2 c3 c : Nat) (l1 l2 l3 : List UInt8) (w : World)
    (h1 : w.cell? ⟨g, 0, none⟩ = some (.slice A1 n1 c1)) (h2 : w.cell? ⟨g, 1, none⟩ = some (.slice A2 n2 c2)) (h3 : w.cell? ⟨g, 2, none⟩ = some (.slice A3 n3 c3)) (hg : g < w.heap.size)
    (r1 : Rd w w.heap.size 1 A1 n1 (bv l1)) (r2 : Rd w w.heap.size 1 A2 n2 (bv l2)) (r3 : Rd w w.heap.size 1 A3 n3 (bv l3)) (hn1 : n1 ≤ 10000000) (hn2 : n2 ≤ 10000000) (hn3 : n3 ≤ 10000000) :
    Calls Tryz.prog 31 #[.slice (some ⟨g, 0, none⟩) 3 c] w (NewB w (l1 ++ l2 ++ l3)) := by
  obtain ⟨i0, hi, hz0, hz1, hz2⟩ := info_parts Tryz.info_by
  have e1 : l1.length = n1 := by have := r1.len; rwa [bv_length] at this
  have e2 : l2.length = n2 := by have := r2.len; rwa [bv_length] at this
  have e3 : l3.length = n3 := by have := r3.len; rwa [bv_length] at this
  have CG := Lib.hid (grow_any (n1 + n2 + n3) (by omega) w)
  go_enter Tryz.func31, Tryz.ntmps31
  go_wp2
  go_loop [3, 11] (fun s i => (i = .int .i64 0 ∧ s = .int .i64 0) ∨ (i = .int .i64 1 ∧ s = .int .i64 (n1 : Int)) ∨ (i = .int .i64 2 ∧ s = .int .i64 ((n1 + n2 : Nat) : Int)) ∨ (i = .int .i64 3 ∧ s = .int .i64 ((n1 + n2 + n3 : Nat) : Int))) (fun _ i => 3 - (intOf i).toNat)
  case atStart => exact .inl ⟨rfl, rfl⟩
  case round =>
    rcases hrel with ⟨rfl, rfl⟩ | ⟨rfl, rfl⟩ | ⟨rfl, rfl⟩ | ⟨rfl, rfl⟩
    · go_wp2
      go_round
      case rel => exact .inr (.inl ⟨rfl, by go_num⟩)
      case measure => simp [intOf]
    · go_wp2
      go_round
      case rel => exact .inr (.inr (.inl ⟨rfl, by go_num⟩))
      case measure => simp [intOf]
    · go_wp2
      go_round
      case rel => exact .inr (.inr (.inr ⟨rfl, by go_num⟩))
      case measure => simp [intOf]
    · go_wp2_with fail
      refine (CG.out).mono ?_; rintro e w1 ⟨A0, c0, rfl, o0, b0⟩
      go_wp2_with fail
      go_loopw [6, 27] (fun s i wr => ∃ (j : Nat) (A : Option Addr) (k : Nat), j ≤ 3 ∧ i = .int .i64 j ∧ s = .slice A (cat3 l1 l2 l3 j).length k ∧ Own wr w.heap.size 5 1 A (cat3 l1 l2 l3 j).length k (bv (cat3 l1 l2 l3 j)) ∧ Below w.heap.size w wr) (fun _ i _ => 3 - (intOf i).toNat)
      case atStart => exact ⟨0, A0, c0, by omega, rfl, rfl, o0, b0⟩
      case round =>
        obtain ⟨j, A, k, hj, rfl, rfl, ho, hb⟩ := hrel
        have q1 : wr.cell? ⟨g, 0, none⟩ = some (.slice A1 n1 c1) := by rw [hb.cell (by simpa using hg)]; exact h1
        have q2 : wr.cell? ⟨g, 1, none⟩ = some (.slice A2 n2 c2) := by rw [hb.cell (by simpa using hg)]; exact h2
        have q3 : wr.cell? ⟨g, 2, none⟩ = some (.slice A3 n3 c3) := by rw [hb.cell (by simpa using hg)]; exact h3
        have hbs := hb.size
        have hO := Lib.hid ho
        have hj4 : j = 0 ∨ j = 1 ∨ j = 2 ∨ j = 3 := by omega
        rcases hj4 with rfl | rfl | rfl | rfl
        · have el : (cat3 l1 l2 l3 0) = [] := rfl
          have en : (cat3 l1 l2 l3 1) = l1 := rfl
          rw [el] at hO ⊢
          clear ho
          go_wp2_with (
            at_builtin
            refine wpList_append_rd _ rfl (.tmp 31) (.tmp 32) 24 rfl w.heap.size 5 i0 (.int .u8 0) 1 1 Tryz.underlying24 hi hz0 hz1 hz2 rfl (by decide) (by decide) A 0 k (bv []) rfl hO.out w.heap.size A1 n1 c1 (bv l1) rfl (r1.below hb) (bv_oneCell _) (by omega) (by omega) ?_
            intro A6 c6 w6 o6 b6
            rw [← bv_append] at o6)
          go_roundw
          case rel => exact ⟨1, A6, c6, by omega, rfl, by rw [en, e1], by rw [en, e1]; simpa using o6, hb.trans b6⟩
          case measure => simp [intOf]
        · have el : (cat3 l1 l2 l3 1) = l1 := rfl
          have en : (cat3 l1 l2 l3 2) = l1 ++ l2 := rfl
          rw [el] at hO ⊢
          clear ho
          go_wp2_with (
            at_builtin
            refine wpList_append_rd _ rfl (.tmp 31) (.tmp 32) 24 rfl w.heap.size 5 i0 (.int .u8 0) 1 1 Tryz.underlying24 hi hz0 hz1 hz2 rfl (by decide) (by decide) A l1.length k (bv l1) rfl hO.out w.heap.size A2 n2 c2 (bv l2) rfl (r2.below hb) (bv_oneCell _) (by omega) (by omega) ?_
            intro A6 c6 w6 o6 b6
            rw [← bv_append] at o6)
          go_roundw
          case rel => exact ⟨2, A6, c6, by omega, rfl, by rw [en, List.length_append, e1, e2], by rw [en, List.length_append, e2]; exact o6, hb.trans b6⟩
          case measure => simp [intOf]
        · have el : (cat3 l1 l2 l3 2) = l1 ++ l2 := rfl
          have en : (cat3 l1 l2 l3 3) = l1 ++ l2 ++ l3 := rfl
          rw [el] at hO ⊢
          clear ho
          have e12 : (l1 ++ l2).length = n1 + n2 := by rw [List.length_append, e1, e2]
          generalize l1 ++ l2 = l12 at *
          go_wp2_with (
            at_builtin
            refine wpList_append_rd _ rfl (.tmp 31) (.tmp 32) 24 rfl w.heap.size 5 i0 (.int .u8 0) 1 1 Tryz.underlying24 hi hz0 hz1 hz2 rfl (by decide) (by decide) A l12.length k (bv l12) rfl hO.out w.heap.size A3 n3 c3 (bv l3) rfl (r3.below hb) (bv_oneCell _) (by omega) (by omega) ?_
            intro A6 c6 w6 o6 b6
            rw [← bv_append] at o6)
          go_roundw
          case rel => exact ⟨3, A6, c6, by omega, rfl, by rw [en, List.length_append, e12, e3], by rw [en, List.length_append, e3]; exact o6, hb.trans b6⟩
          case measure => simp [intOf]
        · have el : (cat3 l1 l2 l3 3) = l1 ++ l2 ++ l3 := rfl
          rw [el] at hO ⊢
          clear ho
          generalize l1 ++ l2 ++ l3 = l123 at *
          go_wp2
          go_ret
          exact ⟨A, k, rfl, hO.out, hb⟩
end Go.Proofs.YtpakmeegldgjmaaGreat
/- Layer 4 (frame): Put, Size, the document's Put. -/
namespace Go.Proofs.YtpakmeegldgjmaaGreat
open Go.RowKit
set_option linter.unusedVariables false
set_option maxRecDepth 100000

/-- A body's frame. -/
def frm (l : List UInt8) : List UInt8 := vput l.length ++ l ++ leB (crcN l) 4
set_option maxHeartbeats 1000000 in
theorem fput_any (A A' : Option Addr) (n m c c' : Nat) (lb l : List UInt8) (w : World) (hr : Rd w w.heap.size 1 A n (bv lb)) (hr' : Rd w w.heap.size 1 A' m (bv l)) (hn : n ≤ 1000000) (hm : m ≤ 1000000) :
    Calls Tryz.prog 10 #[.slice A n c, .slice A' m c'] w (NewBytes2 w (lb ++ frm l) 0) := by
  have el : l.length = m := by have := hr'.len; rwa [bv_length] at this
  have elb : lb.length = n := by have := hr.len; rwa [bv_length] at this
  have hcl := crcN_lt l
  have C1 := Lib.hid (sum_any A' m c' w.heap.size l w (by omega) hr' (Nat.le_refl _))
  have C2 := Lib.hid (fun w => bytes_any (crcN l) 4 (by omega) (by omega) (by omega) (by omega) w)
  have C3 := Lib.hid (fun w h hB => put_any A n c w.heap.size m lb w hn (by omega) h hB)
  have y1 : IntKind.u64.wrap (m : Int) = (m : Int) := by rw [IntKind.wrap_u64]; omega
  have y2 : (m : Int) % 18446744073709551616 = (m : Int) := by omega
  have lv := vput_le (x := m) (by omega)
  have l4 : (leB (crcN l) 4).length = 4 := leB_length _ _
  have hE : lb ++ frm l = lb ++ vput m ++ l ++ leB (crcN l) 4 := by unfold frm; rw [el]; simp
  rw [hE]
  clear hE
  generalize crcN l = X at *
  generalize leB X 4 = S4 at *
  generalize hL : lb ++ vput m ++ l ++ S4 = LL
  have HL := Lib.hid hL
  have L4 := Lib.hid l4
  clear hL l4
  go_enter Tryz.func10, Tryz.ntmps10
  go_wp2_with fail
  refine (C1.out).mono ?_; rintro e w1 ⟨rfl, b1⟩
  go_wp2_with fail
  refine (C2.out _).mono ?_; rintro e w2 ⟨As, cs, rfl, o2, b2⟩
  have b12 := below_step b1 b2
  have hz2 := b12.size
  have rb2 := (hr.below b12).more hz2
  have C3' := Lib.hid (C3.out w2 rb2 (Nat.le_refl _))
  have O2 := Lib.hid o2.rd
  have B2 := Lib.hid b12
  clear b1 b2 b12 o2 C1 C2 C3 rb2
  go_wp2_with fail
  refine (C3'.out).mono ?_; rintro e w3 ⟨Ap, cp, rfl, o3, b3⟩
  have hz3 := b3.size
  have hb4 := (below_step B2.out b3).alloc (by omega) (.cells #[.slice Ap (lb ++ vput m).length cp, .slice A' m c', .slice As S4.length cs] 24)
  have hW := Whole.new w3 24 #[.slice Ap (lb ++ vput m).length cp, .slice A' m c', .slice As S4.length cs]
  have q1 := (o3.rd.alloc (Nat.le_refl _) (.cells #[.slice Ap (lb ++ vput m).length cp, .slice A' m c', .slice As S4.length cs] 24)).more (B' := (w3.alloc (.cells #[.slice Ap (lb ++ vput m).length cp, .slice A' m c', .slice As S4.length cs] 24)).heap.size) (by simp)
  have q2 := (hr'.below hb4).more hb4.size
  have q3 := ((O2.out.below b3).alloc hz3 (.cells #[.slice Ap (lb ++ vput m).length cp, .slice A' m c', .slice As S4.length cs] 24)).more (B' := (w3.alloc (.cells #[.slice Ap (lb ++ vput m).length cp, .slice A' m c', .slice As S4.length cs] 24)).heap.size) (by simp; omega)
  have CC' := (concat3_any w3.heap.size Ap A' As (lb ++ vput m).length m S4.length cp c' cs 3 (lb ++ vput m) l S4 _ (by rw [hW.cell]; rfl) (by rw [hW.cell]; rfl) (by rw [hW.cell]; rfl) hW.lt q1 q2 q3 (by simp; omega) (by omega) (by have := L4.out; omega))
  rw [HL.out] at CC'
  have CC := Lib.hid CC'
  clear CC'
  have HB4 := Lib.hid hb4
  clear hW q1 q2 q3 o3 b3 hb4 O2 B2 C3'
  generalize lb ++ vput m = LV at *
  clear HL
  go_wp2_with fail
  refine (CC.out).mono ?_; rintro e w5 ⟨Ax, cx, rfl, o5, b5⟩
  have hB5 := below_step HB4.out b5
  have hz4 := HB4.out.size
  go_wp2
  go_ret2
  exact ⟨Ax, cx, rfl, o5.base_le (by omega), hB5⟩
end Go.Proofs.YtpakmeegldgjmaaGreat
/- Layer 4 (frame): Get. -/
namespace Go.Proofs.YtpakmeegldgjmaaGreat
open Go.RowKit
set_option linter.unusedVariables false
set_option maxRecDepth 100000

/-- The frame that bytes begin with: the body, how many bytes, the error. -/
def fG (l : List UInt8) : List UInt8 × Nat × Int :=
  if (vget 0 0 l).2.2 ≠ 0 then ([], 0, (vget 0 0 l).2.2)
  else if 1048576 < (vget 0 0 l).1 then ([], 0, 3)
  else if l.length < (vget 0 0 l).2.1 + (vget 0 0 l).1 + 4 then ([], 0, 2)
  else if ofLe ((l.drop ((vget 0 0 l).2.1 + (vget 0 0 l).1)).take 4) ≠ crcN ((l.drop (vget 0 0 l).2.1).take (vget 0 0 l).1) then ([], 0, 5)
  else ((l.drop (vget 0 0 l).2.1).take (vget 0 0 l).1, (vget 0 0 l).2.1 + (vget 0 0 l).1 + 4, 0)
def GE (w : World) (r : List UInt8 × Nat × Int) (e : Ending) (w' : World) : Prop :=
  ∃ A c, e = .returned (.tuple #[.slice A r.1.length c, .int .i64 (r.2.1 : Int), .int .i64 r.2.2]) ∧ Own w' w.heap.size 5 1 A r.1.length c (bv r.1) ∧ Below w.heap.size w w'
set_option maxHeartbeats 2000000 in
theorem fget_any (A : Option Addr) (n c : Nat) (l : List UInt8) (w : World) (hr : Rd w w.heap.size 1 A n (bv l)) (hn : n ≤ 1000000) (hnc : n ≤ c) (hcm : c ≤ maxLen) :
    Calls Tryz.prog 28 #[.slice A n c] w (GE w (fG l)) := by
  have el : l.length = n := by have := hr.len; rwa [bv_length] at this
  have hcm' : c ≤ 9223372036854775807 := hcm
  have C1 := Lib.hid (get_any A n c w.heap.size l w (by omega) hr)
  rcases vget_err l 0 0 with ⟨x, k, hv⟩ | hv | hv
  · obtain ⟨hx, hk, r, hlr⟩ := vget_only l x k hv
    have hkn : k ≤ n := by rw [hk, ← el, hlr, List.length_append]; omega
    have hd : getV (vget 0 0 l) = .tuple #[.int .u64 (x : Int), .int .i64 (k : Int), .int .i64 0] := by rw [hv]; rfl
    rw [hd] at C1
    have hG : fG l = if 1048576 < x then ([], 0, 3) else if n < k + x + 4 then ([], 0, 2) else if ofLe ((l.drop (k + x)).take 4) ≠ crcN ((l.drop k).take x) then ([], 0, 5) else ((l.drop k).take x, k + x + 4, 0) := by
      unfold fG
      rw [hv, el]
      simp
    rw [hG]
    clear hd hv hlr hk hG
    by_cases g1 : 1048576 < x
    · rw [if_pos g1]
      have t1 : decide ((1048576 : Int) < (x : Int)) = true := by simp; omega
      go_enter Tryz.func28, Tryz.ntmps28
      go_wp2_with fail
      refine (C1.out).mono ?_; rintro e w1 ⟨rfl, rfl⟩
      go_wp2
      go_ret3
      exact ⟨none, 0, rfl, Own.nil_, Below.refl _ _⟩
    · rw [if_neg g1]
      have t1 : ¬ ((1048576 : Int) < (x : Int)) := by omega
      have w1' : IntKind.i64.wrap (x : Int) = (x : Int) := IntWalk.i64_in _ (by omega)
      by_cases g2 : n < k + x + 4
      · rw [if_pos g2]
        have t2 : (n : Int) - (k : Int) - 4 < (x : Int) := by omega
        go_enter Tryz.func28, Tryz.ntmps28
        go_wp2_with fail
        refine (C1.out).mono ?_; rintro e w1 ⟨rfl, rfl⟩
        go_wp2
        go_ret3
        exact ⟨none, 0, rfl, Own.nil_, Below.refl _ _⟩
      · rw [if_neg g2]
        have t2 : ¬ ((n : Int) - (k : Int) - 4 < (x : Int)) := by omega
        have hs1 : ∀ w, (sizeOf (Tryz.prog.elem 24)).run Tryz.prog w = .ok 1 w := fun w => by kernel_rfl
        have ekx : ((k + x : Nat) : Int) = (k : Int) + (x : Int) := by omega
        have ekx4 : ((k + x + 4 : Nat) : Int) = (k : Int) + (x : Int) + 4 := by omega
        have ex1 : k + x - k = x := by omega
        have ex2 : k + x + 4 - (k + x) = 4 := by omega
        have hm3 := fun w => run_mid3 (P := Tryz.prog) 24 (by kernel_rfl) hs1 A n c k (k + x) (k + x) (by omega) (by omega) (by omega) w
        have hm := fun w => run_mid (P := Tryz.prog) 24 (by kernel_rfl) hs1 A n c (k + x) (k + x + 4) (by omega) (by omega) w
        rw [ekx, ex1] at hm3
        rw [ekx, ekx4, ex2] at hm
        have rb : Rd w w.heap.size 1 (cutA A (k + x) k) x (bv ((l.drop k).take x)) := by
          have := (hr.front (k := k + x) (by omega)).cutA_ (k := k) (c := k + x) (by omega) (Nat.le_refl _)
          rw [ex1, ← bv_take, ← bv_drop, List.drop_take, ex1] at this
          exact this
        have rs : Rd w w.heap.size 1 (cutA A c (k + x)) 4 (bv ((l.drop (k + x)).take 4)) := by
          have := hr.mid (l := k + x) (h := k + x + 4) (by omega) (by omega) hnc
          rw [ex2, ← bv_drop, ← bv_take] at this
          exact this
        have C2 := Lib.hid (fun cc => number_any (cutA A c (k + x)) 4 cc w.heap.size _ w (by omega) (by omega) rs)
        have C3 := Lib.hid (fun cc => sum_any (cutA A (k + x) k) x cc w.heap.size _ w (by omega) rb (Nat.le_refl _))
        have lb : ((l.drop k).take x).length = x := by rw [List.length_take, List.length_drop]; omega
        have hO : ofLe ((l.drop (k + x)).take 4) < 4294967296 := by
          have := ofLe_lt ((l.drop (k + x)).take 4)
          rw [List.length_take, List.length_drop, show min 4 (l.length - (k + x)) = 4 by omega] at this
          exact this
        have hX := crcN_lt ((l.drop k).take x)
        have RB := Lib.hid rb
        clear rs ekx ekx4 ex1 ex2 rb
        generalize ofLe ((l.drop (k + x)).take 4) = O at *
        generalize (l.drop k).take x = body at *
        generalize hcX : crcN body = X at *
        generalize cutA A (k + x) k = AB at *
        generalize cutA A c (k + x) = AS at *
        have z1 : (O : Int) % 4294967296 = (O : Int) := by omega
        by_cases g3 : O = X
        · rw [if_neg (by simp [g3])]
          have t3 : ((O : Int) != (X : Int)) = false := by simp [g3]
          have CC := Lib.hid (fun cc (w1 : World) h => clone_any AB x cc w1.heap.size body w1 (by omega) h (Nat.le_refl _))
          clear g3 hcX
          go_enter Tryz.func28, Tryz.ntmps28
          go_wp2_with fail
          refine (C1.out).mono ?_; rintro e w1 ⟨rfl, rfl⟩
          go_wp2_with fail
          refine (C2.out _).mono ?_; rintro e w1 ⟨rfl, rfl⟩
          go_wp2_with fail
          refine (C3.out _).mono ?_; rintro e w1 ⟨rfl, b1⟩
          have rb1 := (RB.out.below b1).more b1.size
          go_wp2_with fail
          refine (CC.out _ _ rb1).mono ?_; rintro e w2 ⟨A2, c2, rfl, o2, b2⟩
          go_wp2
          go_ret3
          refine ⟨A2, c2, ?_, o2.base_le b1.size, below_step b1 b2⟩
          first | rfl | (simp; omega)
        · rw [if_pos g3]
          have t3 : ((O : Int) != (X : Int)) = true := by simp; omega
          go_enter Tryz.func28, Tryz.ntmps28
          go_wp2_with fail
          refine (C1.out).mono ?_; rintro e w1 ⟨rfl, rfl⟩
          go_wp2_with fail
          refine (C2.out _).mono ?_; rintro e w1 ⟨rfl, rfl⟩
          go_wp2_with fail
          refine (C3.out _).mono ?_; rintro e w1 ⟨rfl, b1⟩
          go_wp2
          go_ret3
          exact ⟨none, 0, rfl, Own.nil_, b1⟩
  all_goals
    have hG : fG l = ([], 0, (vget 0 0 l).2.2) := by simp [fG, hv]
    rw [hG]
    rw [hv] at C1 ⊢
    simp only [getV] at C1
    clear hG hv
    go_enter Tryz.func28, Tryz.ntmps28
    go_wp2_with fail
    refine (C1.out).mono ?_; rintro e w1 ⟨rfl, rfl⟩
    go_wp2
    go_ret3
    exact ⟨none, 0, rfl, Own.nil_, Below.refl _ _⟩
end Go.Proofs.YtpakmeegldgjmaaGreat
/- Layer 4 (frame): the document's Get; One. -/
namespace Go.Proofs.YtpakmeegldgjmaaGreat
open Go.RowKit
set_option linter.unusedVariables false
set_option maxRecDepth 100000

/-- What One says. -/
def f1 (l : List UInt8) : List UInt8 × Int := if (fG l).2.2 ≠ 0 then ([], (fG l).2.2) else if (fG l).2.1 < l.length then ([], 1) else ((fG l).1, 0)
def OE (w : World) (r : List UInt8 × Int) (e : Ending) (w' : World) : Prop :=
  ∃ A c, e = .returned (.tuple #[.slice A r.1.length c, .int .i64 r.2]) ∧ Own w' w.heap.size 5 1 A r.1.length c (bv r.1) ∧ Below w.heap.size w w'
theorem fone_any (A : Option Addr) (n c : Nat) (l : List UInt8) (w : World) (hr : Rd w w.heap.size 1 A n (bv l)) (hn : n ≤ 1000000) (hnc : n ≤ c) (hcm : c ≤ maxLen) :
    Calls Tryz.prog 33 #[.slice A n c] w (OE w (f1 l)) := by
  have el : l.length = n := by have := hr.len; rwa [bv_length] at this
  have C1 := Lib.hid (fget_any A n c l w hr hn hnc hcm)
  unfold f1
  rw [el]
  generalize fG l = R at *
  obtain ⟨body, m, er⟩ := R
  simp only at *
  by_cases h1 : er = 0
  · subst h1
    rw [if_neg (by simp)]
    by_cases h2 : m < n
    · rw [if_pos h2]
      have t2 : (m : Int) < (n : Int) := by omega
      go_enter Tryz.func33, Tryz.ntmps33
      go_wp2_with fail
      refine (C1.out).mono ?_; rintro e w1 ⟨A1, c1, rfl, o1, b1⟩
      go_wp2
      go_ret2
      exact ⟨none, 0, rfl, Own.nil_, b1⟩
    · rw [if_neg h2]
      have t2 : ¬ ((m : Int) < (n : Int)) := by omega
      go_enter Tryz.func33, Tryz.ntmps33
      go_wp2_with fail
      refine (C1.out).mono ?_; rintro e w1 ⟨A1, c1, rfl, o1, b1⟩
      go_wp2
      go_ret2
      exact ⟨A1, c1, rfl, o1, b1⟩
  · rw [if_pos h1]
    have t1 : (er != 0) = true := by simp [h1]
    go_enter Tryz.func33, Tryz.ntmps33
    go_wp2_with fail
    refine (C1.out).mono ?_; rintro e w1 ⟨A1, c1, rfl, o1, b1⟩
    go_wp2
    go_ret2
    exact ⟨none, 0, rfl, Own.nil_, b1⟩
end Go.Proofs.YtpakmeegldgjmaaGreat
/- Layer 4 (frame): a frame is got again; awake. -/
namespace Go.Proofs.YtpakmeegldgjmaaGreat
open Go.RowKit
set_option linter.unusedVariables false
set_option maxRecDepth 100000

theorem fG_frm (l : List UInt8) (h : l.length ≤ 1048576) : fG (frm l) = (l, (frm l).length, 0) := by
  have hv : vget 0 0 (frm l) = (l.length, (vput l.length).length, 0) := by
    unfold frm
    rw [List.append_assoc]
    exact vget_put _ _ (by omega)
  have hL : (frm l).length = (vput l.length).length + l.length + 4 := by
    unfold frm
    rw [List.length_append, List.length_append, leB_length]
  have hX := crcN_lt l
  have d1 : (frm l).drop (vput l.length).length = l ++ leB (crcN l) 4 := by
    unfold frm
    rw [List.append_assoc, List.drop_left' rfl]
  have d2 : (frm l).drop ((vput l.length).length + l.length) = leB (crcN l) 4 := by
    rw [← List.drop_drop, d1, List.drop_left' rfl]
  unfold fG
  rw [hv]
  simp only [ne_eq, not_true_eq_false, if_false]
  rw [if_neg (by omega), if_neg (by omega), d1, d2, List.take_left' rfl, List.take_of_length_le (by rw [leB_length]; omega), ofLe_leB _ _ (by omega)]
  simp [hL]
end Go.Proofs.YtpakmeegldgjmaaGreat
/- Layer 4 (frame): what is got was a frame; a frame with one byte changed is none. -/
namespace Go.Proofs.YtpakmeegldgjmaaGreat
open Go.RowKit
set_option linter.unusedVariables false
set_option maxRecDepth 100000

theorem f1_frm (l : List UInt8) (h : l.length ≤ 1048576) : f1 (frm l) = (l, 0) := by
  unfold f1
  rw [fG_frm l h]
  simp
end Go.Proofs.YtpakmeegldgjmaaGreat
/- Layer 4 (frame): rows of bytes; the document's Same; the frames that bytes begin with. -/
namespace Go.Proofs.YtpakmeegldgjmaaGreat
open Go.RowKit
set_option linter.unusedVariables false
set_option maxRecDepth 100000

/-- A slice value that reads as the bytes l. -/
def RdB (w : World) (u : Value) (l : List UInt8) : Prop := ∃ A c, u = .slice A l.length c ∧ Rd w w.heap.size 1 A l.length (bv l)
theorem RdB.below {w w' : World} {u : Value} {l : List UInt8} (h : RdB w u l) (hb : Below w.heap.size w w') : RdB w' u l := by
  obtain ⟨A, c, rfl, r⟩ := h
  exact ⟨A, c, rfl, (r.below hb).more hb.size⟩
/-- Slice values, one for each bytes of L. -/
def RdBs (w : World) (us : List Value) (L : List (List UInt8)) : Prop := us.length = L.length ∧ ∀ (i : Nat) (u : Value) (l : List UInt8), us[i]? = some u → L[i]? = some l → RdB w u l
theorem RdBs.below {w w' : World} {us : List Value} {L : List (List UInt8)} (h : RdBs w us L) (hb : Below w.heap.size w w') : RdBs w' us L :=
  ⟨h.1, fun i u l hu hl => (h.2 i u l hu hl).below hb⟩
/-- Rows of the call's own: each in a block of its own bytes. -/
def OwB (w : World) (base : Nat) (u : Value) (l : List UInt8) : Prop := ∃ A c, u = .slice A l.length c ∧ Own w base 5 1 A l.length c (bv l)
def OwBs (w : World) (base : Nat) (us : List Value) (L : List (List UInt8)) : Prop := us.length = L.length ∧ ∀ (i : Nat) (u : Value) (l : List UInt8), us[i]? = some u → L[i]? = some l → OwB w base u l
theorem OwBs.rd {w : World} {base : Nat} {us : List Value} {L : List (List UInt8)} (h : OwBs w base us L) : RdBs w us L :=
  ⟨h.1, fun i u l hu hl => by obtain ⟨A, c, rfl, o⟩ := h.2 i u l hu hl; exact ⟨A, c, rfl, o.rd⟩⟩
theorem OwBs.below {w w' : World} {base : Nat} {us : List Value} {L : List (List UInt8)} (h : OwBs w base us L) (hb : Below w.heap.size w w') : OwBs w' base us L :=
  ⟨h.1, fun i u l hu hl => by obtain ⟨A, c, rfl, o⟩ := h.2 i u l hu hl; exact ⟨A, c, rfl, o.below hb (Nat.le_refl _)⟩⟩
theorem OwBs.nil_ (w : World) (base : Nat) : OwBs w base [] [] := ⟨rfl, fun i u l h => by simp at h⟩
/-- Two slices of the call's own of different types lie in different blocks. -/
theorem Own.apart {w : World} {base base' size size' n n' c c' : Nat} {e e' : TypeId} {A A' : Option Addr} {xs xs' : List Value} (h : Own w base e size A n c xs) (h' : Own w base' e' size' A' n' c' xs') (hne : e ≠ e') : ∀ k, bl A = some k → bl A' ≠ some k := by
  intro k hk hk'
  rcases h.1.2 with ⟨hv, _⟩ | ⟨g, cap, cur, hv, _, hg, _⟩
  · injection hv with hA; subst hA; cases hk
  · injection hv with hA
    subst hA
    rcases h'.1.2 with ⟨hv', _⟩ | ⟨g', cap', cur', hv', _, hg', _⟩
    · injection hv' with hA; subst hA; cases hk'
    · injection hv' with hA
      subst hA
      simp [bl] at hk hk'
      subst hk hk'
      rw [hg] at hg'
      injection hg' with hg'
      injection hg' with _ ht
      exact hne ht
theorem OwBs.grown {w w' : World} {base base' size n c : Nat} {e : TypeId} {A : Option Addr} {xs : List Value} {us : List Value} {L : List (List UInt8)} (h : OwBs w base us L) (ho : Own w base' e size A n c xs) (hne : e ≠ 5) (hg : w.grownBy w' (bl A)) : OwBs w' base us L :=
  ⟨h.1, fun i u l hu hl => by
    obtain ⟨B, d, rfl, o⟩ := h.2 i u l hu hl
    exact ⟨B, d, rfl, o.ch (grown_ch hg) (fun k _ _ hk hs => ho.apart o hne k hs.symm hk)⟩⟩
theorem OwBs.alloc {w : World} {base : Nat} {us : List Value} {L : List (List UInt8)} (h : OwBs w base us L) (ob : Obj) : OwBs (w.alloc ob) base us L :=
  h.below ((Below.refl _ _).alloc (Nat.le_refl _) _)
end Go.Proofs.YtpakmeegldgjmaaGreat
/- Layer 4 (frame): frames one behind the other, cut off anywhere. -/
namespace Go.Proofs.YtpakmeegldgjmaaGreat
open Go.RowKit
set_option linter.unusedVariables false
set_option maxRecDepth 100000

def fcat (L : List (List UInt8)) : List UInt8 := L.flatMap frm
end Go.Proofs.YtpakmeegldgjmaaGreat
