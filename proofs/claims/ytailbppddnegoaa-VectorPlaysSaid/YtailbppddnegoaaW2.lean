/- Words of memory, more: appends behind a guard; 'append(xs, make([]T, n)...)'. -/
import Derived.Test.YtailbppddnegoaaW
import Derived.Lib.AppendZeros
import Derived.Lib.AppendZerosOnto
import Derived.Laws.CopyRow
namespace Go.Proofs.Ytailbppddnegoaa
open Go.RowKit
set_option linter.unusedVariables false
set_option maxRecDepth 100000

section
variable {P : Program}
theorem wpList_want {w : World} {ops : Array Oper} {rest : List Oper} {o : Oper} {a : Act} {Q : Exit → Act → World → Prop} (hw : Region.wanted o (yielded ops a.tmps) = true)
    (h : ∀ K : Act → World → Prop, (∀ a w, wpList P ops Q rest a w → K a w) → o.wp P a w K Q) : wpList P ops Q (o :: rest) a w :=
  wpList_step fun K hK => by rw [if_pos hw]; exact h K hK
theorem run_append_rd (w : World) (t ty : TypeId)
    (base : Nat) (e : TypeId) (i : TypeInfo) (z : Value) (size bytes : Nat) (ht : P.underlying t = some (.slice e)) (hi : P.info? e = some i) (hz : i.zero = some z)
    (hsize : i.size = size) (hby : i.bytes = bytes) (hzs : z.cells.size = size) (hsz : 0 < size) (hbp : 0 < bytes)
    (A : Option Addr) (n c : Nat) (xs : List Value) (hown : Own w base e size A n c xs)
    (B : Nat) (A' : Option Addr) (m c' : Nat) (news : List Value) (hr : Rd w B size A' m news) (h1 : ∀ u ∈ news, u.oneCell' = true)
    (hbytes : (n + m) * bytes ≤ 140737488355328) (hbase : base ≤ w.heap.size) :
    ∃ A2 c2 w', (Builtin.append_ #[t, t] ty #[.slice A n c, .slice A' m c']).run P w = .ok (.slice A2 (n + m) c2) w' ∧ Own w' base e size A2 (n + m) c2 (xs ++ news) ∧ Below base w w' := by
  have h63 : n + m ≤ maxLen := by
    have := Nat.le_mul_of_pos_right (n + m) hbp
    simp only [maxLen]; omega
  rcases A' with _ | ad
  · have hm : m = 0 := by
      rcases Nat.eq_zero_or_pos m with h0 | h0
      · exact h0
      · obtain ⟨b, o, h, _⟩ := hr.2 (Nat.mul_pos h0 hsz)
        cases h
    subst hm
    have hn : news = [] := List.eq_nil_of_length_eq_zero (by simpa using hr.1)
    subst hn
    exact ⟨A, c, w, run_append_nil (P := P) (w := w) base t ty e i size ht hi _ n xs hown.1 c', by simpa using hown, Below.refl _ _⟩
  · have hnews : ∀ j u, news[j]? = some u → w.cell? (ad.add j) = some u := by
      intro j u hu
      have hl : 0 < m * size := by
        rcases Nat.eq_zero_or_pos (m * size) with h0 | h0
        · have : news = [] := List.eq_nil_of_length_eq_zero (by rw [hr.1, h0])
          subst this
          simp at hu
        · exact h0
      obtain ⟨b, o, he, _, hc⟩ := hr.2 hl
      injection he with he
      subst he
      have e0 : (⟨b, o, none⟩ : Addr).add j = ⟨b, o + j, none⟩ := by by_cases hj : j = 0 <;> simp [Addr.add, hj]
      rw [e0]
      exact hc j u hu
    obtain ⟨v', w', hrun, h2, h3, _⟩ := run_append_own (P := P) w base t ty e i z size bytes ht hi hz hsize hby hzs hsz _ n xs hown.1 ad m c' news hr.1 hnews h1 h63 hbytes hbase
    obtain ⟨A2, c2, rfl, ho2⟩ := own_slice h2
    exact ⟨A2, c2, w', hrun, ho2, own_below hown.1 h3 hbase⟩
theorem wp_append_runs (w : World) {o : Oper} {a : Act} {K : Act → World → Prop} {Q : Exit → Act → World → Prop} (s x : Operand) (t tn : TypeId)
    (ho : o.op = .call { callee := .builtin .append, args := #[s, x], argTypes := #[t, tn] }) (vs vx : Value) (hs : a.eval s = vs) (hx : a.eval x = vx)
    (v' : Value) (w' : World) (hr : (Builtin.append_ #[t, tn] o.type #[vs, vx]).run P w = .ok v' w') (h : K (a.put o.dst v') w') : o.wp P a w K Q := Lib.wp_append_run w s x t tn ho vs vx hs hx v' w' hr h
theorem wpList_append_rdw (w : World) {ops : Array Oper} {rest : List Oper} {o : Oper} {a : Act} {Q : Exit → Act → World → Prop} (hw : Region.wanted o (yielded ops a.tmps) = true) (s x : Operand) (t : TypeId)
    (ho : o.op = .call { callee := .builtin .append, args := #[s, x], argTypes := #[t, t] })
    (base : Nat) (e : TypeId) (i : TypeInfo) (z : Value) (size bytes : Nat) (ht : P.underlying t = some (.slice e)) (hi : P.info? e = some i) (hz : i.zero = some z)
    (hsize : i.size = size) (hby : i.bytes = bytes) (hzs : z.cells.size = size) (hsz : 0 < size) (hbp : 0 < bytes)
    (A : Option Addr) (n c : Nat) (xs : List Value) (hs : a.eval s = .slice A n c) (hown : Own w base e size A n c xs)
    (B : Nat) (A' : Option Addr) (m c' : Nat) (news : List Value) (hx : a.eval x = .slice A' m c') (hr : Rd w B size A' m news) (h1 : ∀ u ∈ news, u.oneCell' = true)
    (hbytes : (n + m) * bytes ≤ 140737488355328) (hbase : base ≤ w.heap.size)
    (h : ∀ A2 c2 w', Own w' base e size A2 (n + m) c2 (xs ++ news) → Below base w w' → wpList P ops Q rest (a.put o.dst (.slice A2 (n + m) c2)) w') : wpList P ops Q (o :: rest) a w :=
  wpList_want hw fun K hK => by
    obtain ⟨A2, c2, w', hrun, h2, h3⟩ := run_append_rd (P := P) w t o.type base e i z size bytes ht hi hz hsize hby hzs hsz hbp A n c xs hown B A' m c' news hr h1 hbytes hbase
    exact wp_append_runs w s x t t ho _ _ hs hx _ w' hrun (hK _ _ (h A2 c2 w' h2 h3))

theorem zeroCells_one (z : Value) (hzc : z.cells = #[z]) (k : Nat) : (Builtin.zeroCells z.cells k).toList = List.replicate k z := by
  rw [hzc]
  apply List.ext_getElem
  · simp [Builtin.zeroCells]
  · intro j h1 h2
    simp [Builtin.zeroCells, Nat.mod_one]
theorem run_append_zeros (w : World) (t tn ty : TypeId) (kn : IntKind) (htn : P.underlying tn = some (.int kn))
    (base : Nat) (e : TypeId) (i : TypeInfo) (z : Value) (bytes : Nat) (ht : P.underlying t = some (.slice e)) (hi : P.info? e = some i) (hz : i.zero = some z)
    (hsize : i.size = 1) (hby : i.bytes = bytes) (hzc : z.cells = #[z]) (hz1 : z.oneCell' = true) (hbp : 0 < bytes)
    (A : Option Addr) (n c : Nat) (xs : List Value) (hown : Own w base e 1 A n c xs) (k : Nat)
    (hbytes : (n + k) * bytes ≤ 140737488355328) (hbase : base ≤ w.heap.size) :
    ∃ A2 c2 w', (Builtin.append_ #[t, tn] ty #[.slice A n c, .int .i64 k]).run P w = .ok (.slice A2 (n + k) c2) w' ∧ Own w' base e 1 A2 (n + k) c2 (xs ++ List.replicate k z) ∧ Below base w w' := by
  have hnk : n + k ≤ 140737488355328 := by
    have := Nat.le_mul_of_pos_right (n + k) hbp
    omega
  have hwr : IntKind.i64.wrap (k : Int) = k := by rw [IntKind.wrap_i64]; omega
  have hkb : k * i.bytes ≤ 140737488355328 := by
    rw [hby]
    exact Nat.le_trans (Nat.mul_le_mul_right _ (by omega)) hbytes
  have hkb' : ¬ (281474976710656 < (k : Int) * (i.bytes : Int)) := by
    rw [← Int.natCast_mul]; omega
  rcases hown.1.2 with ⟨hv, _⟩ | ⟨g, cap, cur, hv, hbg, hg, hnc, hcm, hcs, htake⟩
  · injection hv with h1 h2 h3
    subst h1 h2 h3
    have hx0 : xs = [] := List.eq_nil_of_length_eq_zero (by have := hown.len; simpa using this)
    subst hx0
    have hneg : ¬ ((k : Int) < 0) := by omega
    by_cases hk0 : k = 0
    · subst hk0
      refine ⟨none, 0, w, ?_, by simpa using hown, Below.refl _ _⟩
      have hwr0 : IntKind.i64.wrap 0 = 0 := by rw [IntKind.wrap_i64]; omega
      simp [Builtin.append_, run_underlying ht, run_underlying htn, sizeOf, typeInfo, hi, asInt, asIntOf, hwr0]
    · have hr := Lib.run_append_nil_zeros (P := P) w t tn ty e i z .i64 kn ht htn hi hz k (by omega) (by omega) (by omega) (by omega)
      have hge := grownCap_ge w k 0 e
      have hcm2 := grownCap_le_maxLen w k 0 e (by simp only [maxLen]; omega)
      have hzs : z.cells.size = 1 := by rw [hzc]; rfl
      refine ⟨some ⟨w.heap.size, 0, none⟩, grownCap w k 0 e, _, by rw [Nat.zero_add]; exact hr, ⟨⟨by simp, .inr ⟨w.heap.size, _, _, rfl, hbase, heap_alloc_new w.drew _, by omega, hcm2, ?_, ?_⟩⟩, by omega, hcm2⟩, ?_⟩
      · simp [size_zeroCells, hzs]; omega
      · simp only [Array.toList_append, zeroCells_one z hzc, Nat.mul_one, List.nil_append, Nat.zero_add]
        have : (List.replicate k z).length = k := by simp
        conv => lhs; arg 1; rw [← this]
        exact List.take_left
      · exact ((Below.refl base w).drew).alloc hbase _
  · injection hv with h1 h2 h3
    subst h1 h3
    have hlt : g < w.heap.size := by
      rcases Nat.lt_or_ge g w.heap.size with h | h
      · exact h
      · rw [Array.getElem?_eq_none h] at hg; cases hg
    have hneg : ¬ ((k : Int) < 0) := by omega
    by_cases hk0 : k = 0
    · subst hk0
      refine ⟨_, c, w, ?_, by simpa using hown, Below.refl _ _⟩
      have hwr0 : IntKind.i64.wrap 0 = 0 := by rw [IntKind.wrap_i64]; omega
      simp [Builtin.append_, run_underlying ht, run_underlying htn, sizeOf, typeInfo, hi, hnc, asInt, asIntOf, storeCells, hwr0]
    · have hns : ¬ (k * i.size = 0) := Nat.mul_ne_zero hk0 (by omega)
      by_cases hroom : n + k ≤ c
      · have hst := run_storeCells_at P g n e (List.replicate k z) 0 cur w hg (by simp; omega) (by intro v hv; rw [List.eq_of_mem_replicate hv]; exact hz1)
        simp only [Nat.add_zero, List.length_replicate] at hst
        have hs1 : n * i.size = n := by rw [hsize, Nat.mul_one]
        have hxl : xs.length = n := by have := hown.len; omega
        have htk : cur.toList.take n = xs := by rw [← htake, Nat.mul_one]
        refine ⟨_, c, w.setRow g (cur.toList.take n ++ List.replicate k z ++ cur.toList.drop (n + k)).toArray, ?_, ⟨⟨?_, .inr ⟨g, c, _, rfl, hbg, setRow_heap w g cur _ e _ hg, hroom, hcm, ?_, ?_⟩⟩, hroom, hcm⟩, ?_⟩
        · simp [Builtin.append_, run_underlying ht, run_underlying htn, sizeOf, typeInfo, zeroValue, hi, hz, asInt, asIntOf, hwr, hneg, hns, hkb', hroom, hs1, zeroCells_one z hzc, Addr.add_lit, hst]
        · simp; omega
        · simp; omega
        · rw [htk, Nat.mul_one]
          have : (xs ++ List.replicate k z).length = n + k := by simp; omega
          rw [← this]
          exact List.take_left
        · refine ⟨rfl, rfl, rfl, by simp, fun j hj => setRow_other w g j _ (by omega)⟩
      · have holds : ∀ j u, xs[j]? = some u → w.cell? ((⟨g, 0, none⟩ : Addr).add j) = some u := hown.1.cells (g := g) rfl
        have hxl : xs.length = n := by have := hown.len; omega
        have hold := run_firstCells_some (P := P) w.drew i.size n ⟨g, 0, none⟩ n c xs (by rw [hsize]; omega) (fun j v hv => holds j v hv)
        have hr := Lib.run_append_grow_zeros (P := P) w t tn ty e i z .i64 kn ht htn hi hz (some ⟨g, 0, none⟩) n c xs hold k (by omega) (by omega) (by omega) (by omega) (by omega) (by rw [hby]; exact growslice_fits (by omega) hbytes)
        have hge := grownCap_ge w (n + k) c e
        have hcm2 := grownCap_le_maxLen w (n + k) c e (by simp only [maxLen]; omega)
        refine ⟨_, _, _, hr, ⟨⟨?_, .inr ⟨w.heap.size, _, _, rfl, hbase, heap_alloc_new w.drew _, hge, hcm2, ?_, ?_⟩⟩, hge, hcm2⟩, ?_⟩
        · simp; omega
        · have hzs : z.cells.size = 1 := by rw [hzc]; rfl
          simp [size_zeroCells, hzs]; omega
        · simp only [Array.toList_append, List.append_assoc, zeroCells_one z hzc, Nat.mul_one]
          rw [← List.append_assoc]
          have : (xs ++ List.replicate k z).length = n + k := by simp; omega
          rw [← this]
          exact List.take_left
        · exact ((Below.refl base w).drew).alloc hbase _
theorem wpList_append_zerosw (w : World) {ops : Array Oper} {rest : List Oper} {o : Oper} {a : Act} {Q : Exit → Act → World → Prop} (hw : Region.wanted o (yielded ops a.tmps) = true) (s x : Operand) (t tn : TypeId)
    (ho : o.op = .call { callee := .builtin .append, args := #[s, x], argTypes := #[t, tn] }) (kn : IntKind) (htn : P.underlying tn = some (.int kn))
    (base : Nat) (e : TypeId) (i : TypeInfo) (z : Value) (bytes : Nat) (ht : P.underlying t = some (.slice e)) (hi : P.info? e = some i) (hz : i.zero = some z)
    (hsize : i.size = 1) (hby : i.bytes = bytes) (hzc : z.cells = #[z]) (hz1 : z.oneCell' = true) (hbp : 0 < bytes)
    (A : Option Addr) (n c : Nat) (xs : List Value) (hs : a.eval s = .slice A n c) (hown : Own w base e 1 A n c xs) (k : Nat) (hx : a.eval x = .int .i64 k)
    (hbytes : (n + k) * bytes ≤ 140737488355328) (hbase : base ≤ w.heap.size)
    (h : ∀ A2 c2 w', Own w' base e 1 A2 (n + k) c2 (xs ++ List.replicate k z) → Below base w w' → wpList P ops Q rest (a.put o.dst (.slice A2 (n + k) c2)) w') : wpList P ops Q (o :: rest) a w :=
  wpList_want hw fun K hK => by
    obtain ⟨A2, c2, w', hrun, h2, h3⟩ := run_append_zeros (P := P) w t tn o.type kn htn base e i z bytes ht hi hz hsize hby hzc hz1 hbp A n c xs hown k hbytes hbase
    exact wp_append_runs w s x t tn ho _ _ hs hx _ w' hrun (hK _ _ (h A2 c2 w' h2 h3))
end
end Go.Proofs.Ytailbppddnegoaa
