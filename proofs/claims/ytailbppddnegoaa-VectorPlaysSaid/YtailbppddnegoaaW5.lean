/- Words of memory, more: what is changed but for a set of old blocks; appends that tell where the result lies. -/
import Derived.Test.YtailbppddnegoaaW4
import Derived.Lib.AppendStr
namespace Go.Proofs.Ytailbppddnegoaa
open Go.RowKit
set_option linter.unusedVariables false
set_option maxRecDepth 100000

/-- The block of a slice's address. -/
def bl (A : Option Addr) : Option Nat := A.map (·.block)
theorem ownBlock_bl (A : Option Addr) (n c : Nat) : (Value.slice A n c).ownBlock = bl A := by cases A <;> rfl
theorem bl_none : bl none = none := rfl
theorem bl_some (a : Addr) : bl (some a) = some a.block := rfl
theorem bl_cutA (A : Option Addr) (c k : Nat) : bl (cutA A c k) = bl A := by
  unfold cutA
  split
  · rfl
  · cases A with
    | none => rfl
    | some a => simp [bl, Addr.add]; split <;> rfl

/-- Of the old blocks only those in S may have changed. -/
structure Ch (S : Nat → Prop) (w w' : World) : Prop where
  os : w'.os = w.os
  tape : w'.tape = w.tape
  output : w'.output = w.output
  size : w.heap.size ≤ w'.heap.size
  block : ∀ k, k < w.heap.size → ¬ S k → w'.heap[k]? = w.heap[k]?
section
variable {S S' : Nat → Prop} {w w' w1 w2 : World}
theorem Ch.refl (S : Nat → Prop) (w : World) : Ch S w w := ⟨rfl, rfl, rfl, Nat.le_refl _, fun _ _ _ => rfl⟩
theorem Ch.mono (h : Ch S w w') (hS : ∀ k, k < w.heap.size → S k → S' k) : Ch S' w w' := ⟨h.os, h.tape, h.output, h.size, fun k hk hn => h.block k hk fun hs => hn (hS k hk hs)⟩
theorem Ch.trans (h : Ch S w w1) (k : Ch S' w1 w2) (hS : ∀ k, k < w.heap.size → S' k → S k) : Ch S w w2 :=
  ⟨k.os.trans h.os, k.tape.trans h.tape, k.output.trans h.output, Nat.le_trans h.size k.size, fun i hi hn => (k.block i (Nat.lt_of_lt_of_le hi h.size) fun hs => hn (hS i hi hs)).trans (h.block i hi hn)⟩
theorem below_ch (h : Below w.heap.size w w') : Ch S w w' := ⟨h.os, h.tape, h.output, h.size, fun k hk _ => h.block k hk⟩
theorem grown_ch {row : Option Nat} (h : w.grownBy w' row) : Ch (fun k => some k = row) w w' := ⟨h.os, h.tape, h.output, h.size, fun k hk hn => h.block k hk hn⟩
theorem Ch.set_ (w : World) (p : Addr) (u : Value) : Ch (fun k => k = p.block) w (w.setCell p u) := ⟨rfl, rfl, rfl, by simp, fun k _ hk => Below.heap_setCell w p u k hk⟩
theorem Ch.alloc_ (S : Nat → Prop) (w : World) (o : Obj) : Ch S w (w.alloc o) := below_ch ((Below.refl _ _).alloc (Nat.le_refl _) _)
theorem Ch.drew (h : Ch S w w') : Ch S w w'.drew := ⟨h.os, h.tape, h.output, h.size, h.block⟩
theorem Ch.drewN (h : Ch S w w') (n : Nat) : Ch S w (w'.drewN n) := ⟨h.os, h.tape, h.output, h.size, h.block⟩
theorem Ch.below {B : Nat} (h : Ch S w w') (hS : ∀ k, k < B → ¬ S k) (hB : B ≤ w.heap.size) : Below B w w' := ⟨h.os, h.tape, h.output, h.size, fun k hk => h.block k (Nat.lt_of_lt_of_le hk hB) (hS k hk)⟩
theorem Rd.ch {B size n : Nat} {A : Option Addr} {xs : List Value} (r : Rd w B size A n xs) (hB : B ≤ w.heap.size) (h : Ch S w w') (hS : ∀ k, k < B → bl A = some k → ¬ S k) : Rd w' B size A n xs :=
  ⟨r.1, fun hn => by
    obtain ⟨b, o, e, hb, hc⟩ := r.2 hn
    refine ⟨b, o, e, hb, fun j u hu => ?_⟩
    rw [World.cell?_of_block (h.block b (Nat.lt_of_lt_of_le hb hB) (hS b hb (by rw [e]; rfl)))]
    exact hc j u hu⟩
theorem Own.ch {base size n c : Nat} {e : TypeId} {A : Option Addr} {xs : List Value} (r : Own w base e size A n c xs) (h : Ch S w w') (hS : ∀ k, base ≤ k → k < w.heap.size → bl A = some k → ¬ S k) : Own w' base e size A n c xs := by
  refine ⟨⟨r.1.1, ?_⟩, r.2⟩
  rcases r.1.2 with h0 | ⟨g, cap, cur, hv, h1, h2, h3⟩
  · exact .inl h0
  · have hg : g < w.heap.size := (Array.getElem?_eq_some_iff.1 h2).1
    refine .inr ⟨g, cap, cur, hv, h1, (h.block g hg (hS g h1 hg ?_)).trans h2, h3⟩
    injection hv with hA
    rw [hA]; rfl
theorem Whole.ch {g : Nat} {t : TypeId} {cs : Array Value} (r : Whole w g t cs) (h : Ch S w w') (hS : ¬ S g) : Whole w' g t cs := (h.block g r.lt hS).trans r
end

section
variable {P : Program}
/-- Where the result of an append onto an own row lies: in that row, or in a new block. -/
def Near (w : World) (A A2 : Option Addr) : Prop := bl A2 = bl A ∨ bl A2 = some w.heap.size
theorem near_of_own (w : World) (base : Nat) (t ty e : TypeId) (i : TypeInfo) (z : Value) (size bytes : Nat) (ht : P.underlying t = some (.slice e)) (hi : P.info? e = some i) (hz : i.zero = some z)
    (hsize : i.size = size) (hby : i.bytes = bytes) (hzs : z.cells.size = size) (hsz : 0 < size)
    (v : Value) (n : Nat) (xs : List Value) (hown : w.ownsRow base e size v n xs)
    (a : Addr) (m c : Nat) (news : List Value) (hl : news.length = m * size) (hnews : ∀ j u, news[j]? = some u → w.cell? (a.add j) = some u) (h1 : ∀ u ∈ news, u.oneCell' = true)
    (h63 : n + m ≤ maxLen) (hbytes : (n + m) * bytes ≤ 140737488355328)
    {v' : Value} {w' : World} (hrun : (Builtin.append_ #[t, t] ty #[v, .slice (some a) m c]).run P w = .ok v' w') : v'.ownBlock = v.ownBlock ∨ v'.ownBlock = some w.heap.size := by
  subst hsize
  subst hby
  have hsmall : n + m ≤ 9223372036854775807 := by simp only [maxLen] at h63; omega
  rcases hown.2 with ⟨rfl, rfl⟩ | ⟨g, cap, cur, rfl, hbg, hg, hnc, hcm, hcs, htake⟩
  · by_cases hm : m = 0
    · subst hm
      have hr : (Builtin.append_ #[t, t] ty #[.slice none 0 0, .slice (some a) 0 c]).run P w = .ok (.slice none 0 0) w := by
        simp [Builtin.append_, run_underlying ht, sizeOf, typeInfo, hi, Builtin.lenOf, Builtin.firstCells, loadCells, loadCellsFrom]
      rw [hr] at hrun
      injection hrun with hv _
      exact .inl (by rw [← hv])
    · have hr := Go.run_append_nil (P := P) w t ty e i z ht hi hz a m c news hl hnews (by omega) (by omega) (by have hb := hbytes; simp only [Nat.zero_add] at hb; omega)
      rw [hr] at hrun
      injection hrun with hv _
      exact .inr (by rw [← hv]; rfl)
  · by_cases hroom : n + m ≤ cap
    · have hfit : n * i.size + news.length ≤ cur.size := by rw [hl, hcs, ← Nat.add_mul]; exact Nat.mul_le_mul_right _ hroom
      have hr := run_append_room (P := P) w t ty e i ht hi g n cap cur hg a m c news hl hnews h1 hroom hfit
      rw [hr] at hrun
      injection hrun with hv _
      exact .inl (by rw [← hv]; rfl)
    · have holds : ∀ j u, xs[j]? = some u → w.cell? ((⟨g, 0, none⟩ : Addr).add j) = some u := hown.cells (g := g) rfl
      have hr := run_append_grow (P := P) w t ty e i z ht hi hz ⟨g, 0, none⟩ n cap xs hown.1 holds a m c news hl hnews (by omega) (by omega) (growslice_fits (by omega) hbytes)
      rw [hr] at hrun
      injection hrun with hv _
      exact .inr (by rw [← hv]; rfl)
theorem run_append_rdn (w : World) (t ty : TypeId)
    (base : Nat) (e : TypeId) (i : TypeInfo) (z : Value) (size bytes : Nat) (ht : P.underlying t = some (.slice e)) (hi : P.info? e = some i) (hz : i.zero = some z)
    (hsize : i.size = size) (hby : i.bytes = bytes) (hzs : z.cells.size = size) (hsz : 0 < size) (hbp : 0 < bytes)
    (A : Option Addr) (n c : Nat) (xs : List Value) (hown : Own w base e size A n c xs)
    (B : Nat) (A' : Option Addr) (m c' : Nat) (news : List Value) (hr : Rd w B size A' m news) (h1 : ∀ u ∈ news, u.oneCell' = true)
    (hbytes : (n + m) * bytes ≤ 140737488355328) (hbase : base ≤ w.heap.size) :
    ∃ A2 c2 w', (Builtin.append_ #[t, t] ty #[.slice A n c, .slice A' m c']).run P w = .ok (.slice A2 (n + m) c2) w' ∧ Own w' base e size A2 (n + m) c2 (xs ++ news) ∧ w.grownBy w' (bl A) ∧ Near w A A2 := by
  have h63 : n + m ≤ maxLen := by
    have := Nat.le_mul_of_pos_right (n + m) hbp
    simp only [maxLen]; omega
  rcases A' with _ | ad
  · have hm : m = 0 := by
      rcases Nat.eq_zero_or_pos m with h0 | h0
      · exact h0
      · obtain ⟨b, o, h, _⟩ := hr.2 (Nat.mul_pos h0 hsz)
        cases h
    subst hm
    have hn : news = [] := List.eq_nil_of_length_eq_zero (by simpa using hr.1)
    subst hn
    exact ⟨A, c, w, run_append_nil (P := P) (w := w) base t ty e i size ht hi _ n xs hown.1 c', by simpa using hown, World.grownBy.refl _ _, .inl rfl⟩
  · have hnews : ∀ j u, news[j]? = some u → w.cell? (ad.add j) = some u := by
      intro j u hu
      have hl : 0 < m * size := by
        rcases Nat.eq_zero_or_pos (m * size) with h0 | h0
        · have : news = [] := List.eq_nil_of_length_eq_zero (by rw [hr.1, h0])
          subst this
          simp at hu
        · exact h0
      obtain ⟨b, o, he, _, hc⟩ := hr.2 hl
      injection he with he
      subst he
      have e0 : (⟨b, o, none⟩ : Addr).add j = ⟨b, o + j, none⟩ := by by_cases hj : j = 0 <;> simp [Addr.add, hj]
      rw [e0]
      exact hc j u hu
    obtain ⟨v', w', hrun, h2, h3, _⟩ := run_append_own (P := P) w base t ty e i z size bytes ht hi hz hsize hby hzs hsz _ n xs hown.1 ad m c' news hr.1 hnews h1 h63 hbytes hbase
    have hnear := near_of_own (P := P) w base t ty e i z size bytes ht hi hz hsize hby hzs hsz _ n xs hown.1 ad m c' news hr.1 hnews h1 h63 hbytes hrun
    obtain ⟨A2, c2, rfl, ho2⟩ := own_slice h2
    rw [ownBlock_bl, ownBlock_bl] at hnear
    rw [ownBlock_bl] at h3
    exact ⟨A2, c2, w', hrun, ho2, h3, hnear⟩
theorem wpList_append_rdn (w : World) {ops : Array Oper} {rest : List Oper} {o : Oper} {a : Act} {Q : Exit → Act → World → Prop} (hw : Region.wanted o (yielded ops a.tmps) = true) (s x : Operand) (t : TypeId)
    (ho : o.op = .call { callee := .builtin .append, args := #[s, x], argTypes := #[t, t] })
    (base : Nat) (e : TypeId) (i : TypeInfo) (z : Value) (size bytes : Nat) (ht : P.underlying t = some (.slice e)) (hi : P.info? e = some i) (hz : i.zero = some z)
    (hsize : i.size = size) (hby : i.bytes = bytes) (hzs : z.cells.size = size) (hsz : 0 < size) (hbp : 0 < bytes)
    (A : Option Addr) (n c : Nat) (xs : List Value) (hs : a.eval s = .slice A n c) (hown : Own w base e size A n c xs)
    (B : Nat) (A' : Option Addr) (m c' : Nat) (news : List Value) (hx : a.eval x = .slice A' m c') (hr : Rd w B size A' m news) (h1 : ∀ u ∈ news, u.oneCell' = true)
    (hbytes : (n + m) * bytes ≤ 140737488355328) (hbase : base ≤ w.heap.size)
    (h : ∀ A2 c2 w', Own w' base e size A2 (n + m) c2 (xs ++ news) → w.grownBy w' (bl A) → Near w A A2 → wpList P ops Q rest (a.put o.dst (.slice A2 (n + m) c2)) w') : wpList P ops Q (o :: rest) a w :=
  wpList_want hw fun K hK => by
    obtain ⟨A2, c2, w', hrun, h2, h3, h4⟩ := run_append_rdn (P := P) w t o.type base e i z size bytes ht hi hz hsize hby hzs hsz hbp A n c xs hown B A' m c' news hr h1 hbytes hbase
    exact wp_append_runs w s x t t ho _ _ hs hx _ w' hrun (hK _ _ (h A2 c2 w' h2 h3 h4))
theorem near_of_own_string (w : World) (base : Nat) (t u ty e : TypeId) (i : TypeInfo) (ht : P.underlying t = some (.slice e)) (hu : P.underlying u = some .string) (hi : P.info? e = some i) (hz : i.zero = some (.int .u8 0))
    (hsize : i.size = 1) (hby : i.bytes = 1)
    (v : Value) (n : Nat) (xs : List Value) (hown : w.ownsRow base e 1 v n xs) (s : ByteArray)
    (h63 : n + s.size ≤ maxLen) (hbytes : n + s.size ≤ 140737488355328)
    {v' : Value} {w' : World} (hrun : (Builtin.append_ #[t, u] ty #[v, .string s]).run P w = .ok v' w') : v'.ownBlock = v.ownBlock ∨ v'.ownBlock = some w.heap.size := by
  have hsmall : n + s.size ≤ 9223372036854775807 := by simp only [maxLen] at h63; omega
  have hxl : xs.length = n := by simpa using hown.1
  rcases hown.2 with ⟨rfl, rfl⟩ | ⟨g, cap, cur, rfl, hbg, hg, hnc, hcm, hcs, htake⟩
  · by_cases hm : s.size = 0
    · have hf := Go.Lib.run_firstCells_string (P := P) w 1 s
      rw [hm] at hf
      have hn : Go.Lib.strCells s = [] := List.eq_nil_of_length_eq_zero (by rw [Go.Lib.strCells_length]; exact hm)
      have hr : (Builtin.append_ #[t, u] ty #[.slice none 0 0, .string s]).run P w = .ok (.slice none 0 0) w := by
        simp [Builtin.append_, run_underlying ht, run_underlying hu, sizeOf, typeInfo, hi, hsize, Builtin.lenOf, hm, hf]
      rw [hr] at hrun
      injection hrun with hv _
      exact .inl (by rw [← hv])
    · have hr := Go.run_append_nil_string (P := P) w t u ty e i (.int .u8 0) ht hu hi hz s (by omega) (by omega) (by rw [hby]; omega)
      rw [hr] at hrun
      injection hrun with hv _
      exact .inr (by rw [← hv]; rfl)
  · by_cases hroom : n + s.size ≤ cap
    · have hcs' : cur.size = cap := by simpa using hcs
      have hr := Go.Lib.run_append_room_string (P := P) w t u ty e i ht hu hi hsize g n cap cur hg s hroom (by omega)
      rw [hr] at hrun
      injection hrun with hv _
      exact .inl (by rw [← hv]; rfl)
    · have holds : ∀ j u, xs[j]? = some u → w.cell? ((⟨g, 0, none⟩ : Addr).add j) = some u := hown.cells (g := g) rfl
      have hr := Go.Lib.run_append_grow_string (P := P) w t u ty e i (.int .u8 0) ht hu hi hz ⟨g, 0, none⟩ n cap xs (by rw [hsize]; simpa using hxl) holds s (by omega) (by omega) (by rw [hby]; exact growslice_fits (by omega) (by omega))
      rw [hr] at hrun
      injection hrun with hv _
      exact .inr (by rw [← hv]; rfl)
/-- 'append(own, s...)', s a string. -/
theorem wpList_append_str (w : World) {ops : Array Oper} {rest : List Oper} {o : Oper} {a : Act} {Q : Exit → Act → World → Prop} (hw : Region.wanted o (yielded ops a.tmps) = true) (sl x : Operand) (t u : TypeId)
    (ho : o.op = .call { callee := .builtin .append, args := #[sl, x], argTypes := #[t, u] })
    (base : Nat) (e : TypeId) (i : TypeInfo) (ht : P.underlying t = some (.slice e)) (hu : P.underlying u = some .string) (hi : P.info? e = some i) (hz : i.zero = some (.int .u8 0))
    (hsize : i.size = 1) (hby : i.bytes = 1)
    (A : Option Addr) (n c : Nat) (xs : List Value) (hs : a.eval sl = .slice A n c) (hown : Own w base e 1 A n c xs) (s : ByteArray) (hx : a.eval x = .string s)
    (hbytes : n + s.size ≤ 140737488355328) (hbase : base ≤ w.heap.size)
    (h : ∀ A2 c2 w', Own w' base e 1 A2 (n + s.size) c2 (xs ++ Go.Lib.strCells s) → w.grownBy w' (bl A) → Near w A A2 → wpList P ops Q rest (a.put o.dst (.slice A2 (n + s.size) c2)) w') : wpList P ops Q (o :: rest) a w :=
  wpList_want hw fun K hK => by
    have h63 : n + s.size ≤ maxLen := by simp only [maxLen]; omega
    obtain ⟨v', w', hrun, h2, h3, _⟩ := Go.Lib.run_append_own_string (P := P) w base t u o.type e i ht hu hi hz hsize hby _ n xs hown.1 s h63 hbytes hbase
    have hnear := near_of_own_string (P := P) w base t u o.type e i ht hu hi hz hsize hby _ n xs hown.1 s h63 hbytes hrun
    obtain ⟨A2, c2, rfl, ho2⟩ := own_slice h2
    rw [ownBlock_bl, ownBlock_bl] at hnear
    rw [ownBlock_bl] at h3
    exact wp_append_runs w sl x t u ho _ _ hs hx _ w' hrun (hK _ _ (h A2 c2 w' ho2 h3 hnear))
end
end Go.Proofs.Ytailbppddnegoaa
