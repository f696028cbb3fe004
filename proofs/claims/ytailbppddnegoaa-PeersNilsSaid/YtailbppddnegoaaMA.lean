/- Merged: M1, QM, M2. -/
import Derived.Test.YtailbppddnegoaaWW
import Derived.Maps.Own
import Derived.Maps.OwnSet
import Derived.Maps.Range
import Derived.DeepKeys4
import Derived.ChangeKeysEq
import Derived.DeepKeys2
import Derived.Test.YtailbppddnegoaaProg
/- Maps keyed by structs of whole numbers, with whole numbers as elements: a map block read as a list of pairs (in whatever order), and what look-ups, stores and deletes do to it. -/
namespace Go.Proofs.Ytailbppddnegoaa
open Go.RowKit
open Go.ChangeMaps (notKey putKey delKey)
open Go.WideShapes (sorted_perm)
set_option linter.unusedVariables false
set_option maxRecDepth 100000

/-! Lists of pairs. -/
section
variable {α : Type} [DecidableEq α]
/-- The number at a key; 0 where there is none. -/
def mget : List (α × Int) → α → Int
  | [], _ => 0
  | p :: r, a => if p.1 = a then p.2 else mget r a
def mhas (W : List (α × Int)) (a : α) : Bool := W.any fun p => decide (p.1 = a)
theorem mhas_iff (W : List (α × Int)) (a : α) : mhas W a = true ↔ a ∈ W.map (·.1) := by
  unfold mhas
  rw [List.any_eq_true]
  simp only [List.mem_map, decide_eq_true_eq]
theorem mget_none {W : List (α × Int)} {a : α} (h : a ∉ W.map (·.1)) : mget W a = 0 := by
  induction W with
  | nil => rfl
  | cons p r ih =>
    simp only [List.map_cons, List.mem_cons, not_or] at h
    unfold mget
    rw [if_neg (fun e => h.1 e.symm)]
    exact ih h.2
theorem mget_mem {W : List (α × Int)} (hn : (W.map (·.1)).Nodup) {p : α × Int} (h : p ∈ W) : mget W p.1 = p.2 := by
  induction W with
  | nil => cases h
  | cons q r ih =>
    simp only [List.map_cons, List.nodup_cons] at hn
    unfold mget
    rcases List.mem_cons.1 h with rfl | h'
    · rw [if_pos rfl]
    · rw [if_neg (fun e => hn.1 (by rw [e]; exact List.mem_map.2 ⟨p, h', rfl⟩))]
      exact ih hn.2 h'
theorem mget_perm {W W' : List (α × Int)} (hn : (W.map (·.1)).Nodup) (hp : W.Perm W') (a : α) : mget W a = mget W' a := by
  have hn' : (W'.map (·.1)).Nodup := (hp.map _).nodup_iff.1 hn
  by_cases ha : a ∈ W.map (·.1)
  · obtain ⟨p, hpm, rfl⟩ := List.mem_map.1 ha
    rw [mget_mem hn hpm, mget_mem hn' (hp.mem_iff.1 hpm)]
  · rw [mget_none ha, mget_none (fun h => ha ((hp.map _).mem_iff.2 h))]
theorem mhas_perm {W W' : List (α × Int)} (hp : W.Perm W') (a : α) : mhas W a = mhas W' a := by
  rw [Bool.eq_iff_iff, mhas_iff, mhas_iff]
  exact (hp.map _).mem_iff
end

/-- What is asked of a key's type: how keys are written, which may be. -/
structure KeyT {α : Type} (P : Program) (k : TypeId) (kV : α → Value) (ok : α → Prop) : Prop where
  law : Maps.Keyed P k
  of : ∀ a, ok a → ∃ l, keyOf P k (kV a) = some l
  inv : ∀ v l, keyOf P k v = some l → ∃ a, ok a ∧ v = kV a
  inj : ∀ a b, kV a = kV b → a = b

section
variable {α : Type} {P : Program} {k e : TypeId} {kV : α → Value} {ok : α → Prop} {w w' : World} {b : Nat} {W : List (α × Int)}
/-- What a key reads as. -/
def klit (P : Program) (k : TypeId) (kV : α → Value) (a : α) : Lit := (keyOf P k (kV a)).getD (.bool false)
theorem KeyT.klit (K : KeyT P k kV ok) {a : α} (h : ok a) : keyOf P k (kV a) = some (klit P k kV a) := by
  obtain ⟨l, hl⟩ := K.of a h
  simp [Ytailbppddnegoaa.klit, hl]
theorem KeyT.klit_inj (K : KeyT P k kV ok) {a c : α} (ha : ok a) (hc : ok c) (h : Ytailbppddnegoaa.klit P k kV a = Ytailbppddnegoaa.klit P k kV c) : a = c :=
  K.inj _ _ (K.law.inj (K.klit ha) (h ▸ K.klit hc))
/-- A pair as the reader has it. -/
def pE (P : Program) (k : TypeId) (kV : α → Value) (p : α × Int) : Lit × DataW Unit := (Ytailbppddnegoaa.klit P k kV p.1, .lit (.int .i64 p.2))
/-- Block b is a map whose entries are the pairs of W. -/
def MapIs (P : Program) (k e : TypeId) (kV : α → Value) (ok : α → Prop) (w : World) (b : Nat) (W : List (α × Int)) : Prop :=
  w.ownsMap P k (plainElem (H := Unit) P e) b W.length (.map ((W.map (pE P k kV)).foldr DataW.insert [])) ∧ (W.map (·.1)).Nodup ∧ (∀ p ∈ W, ok p.1) ∧ ∀ p ∈ W, (Lit.int .i64 p.2).wf = true
theorem MapIs.kept {row : Option Nat} (h : MapIs P k e kV ok w b W) (hg : w.grownBy w' row) (hne : some b ≠ row) : MapIs P k e kV ok w' b W := ⟨h.1.kept hg hne, h.2⟩
theorem MapIs.lt (h : MapIs P k e kV ok w b W) : b < w.heap.size := h.1.lt
theorem MapIs.alloc (h : MapIs P k e kV ok w b W) (o : Obj) : MapIs P k e kV ok (w.alloc o) b W := ⟨h.1.alloc o, h.2⟩
theorem MapIs.drew (h : MapIs P k e kV ok w b W) : MapIs P k e kV ok w.drew b W := h
theorem MapIs.block (h : MapIs P k e kV ok w b W) (hb : w'.heap[b]? = w.heap[b]?) : MapIs P k e kV ok w' b W := by
  refine ⟨?_, h.2⟩
  obtain ⟨es, clock, h1, h2⟩ := h.1
  exact ⟨es, clock, hb.trans h1, h2⟩
theorem MapIs.ch {S : Nat → Prop} (h : MapIs P k e kV ok w b W) (hc : Ch S w w') (hS : ¬ S b) : MapIs P k e kV ok w' b W := h.block (hc.block b h.lt hS)
theorem MapIs.below {B : Nat} (h : MapIs P k e kV ok w b W) (hb : Below B w w') (hB : b < B) : MapIs P k e kV ok w' b W := h.block (hb.block b hB)
theorem MapIs.made (w : World) : MapIs P k e kV ok (w.alloc (.map #[] 0)) w.heap.size ([] : List (α × Int)) :=
  ⟨World.ownsMap_made w P k _, by simp, by simp, by simp⟩
theorem pE_mem (W : List (α × Int)) (x : Lit × DataW Unit) : x ∈ (W.map (pE P k kV)) ↔ ∃ p ∈ W, pE P k kV p = x := List.mem_map
theorem MapIs.rising (K : KeyT P k kV ok) (h : MapIs P k e kV ok w b W) : DataW.rising ((W.map (pE P k kV)).foldr DataW.insert []) = true := by
  obtain ⟨es, clock, hb, F, hs, hD⟩ := h.1
  have := Maps.fit_rising K.law F
  injection hD with hD
  rw [hD]
  exact this
theorem MapIs.apart (K : KeyT P k kV ok) (h : MapIs P k e kV ok w b W) : (W.map (pE P k kV)).Pairwise (fun p q => p.1 ≠ q.1) := by
  rw [List.pairwise_map]
  have h2 := h.2.1
  rw [List.nodup_iff_pairwise_ne, List.pairwise_map] at h2
  refine h2.imp_of_mem ?_
  intro p q hp hq hne he
  exact hne (K.klit_inj (h.2.2.1 p hp) (h.2.2.1 q hq) he)
theorem MapIs.keys (K : KeyT P k kV ok) (h : MapIs P k e kV ok w b W) : Maps.Keys (Maps.KeysOf P k) (W.map (pE P k kV)) := by
  intro x hx
  obtain ⟨p, hp, rfl⟩ := List.mem_map.1 hx
  exact ⟨kV p.1, K.klit (h.2.2.1 p hp)⟩
/-- The datum at a key. -/
theorem MapIs.at_ [DecidableEq α] (K : KeyT P k kV ok) (h : MapIs P k e kV ok w b W) {a : α} (ha : ok a) :
    (DataW.map ((W.map (pE P k kV)).foldr DataW.insert [])).atKey (Ytailbppddnegoaa.klit P k kV a) (.lit (.int .i64 0)) = .lit (.int .i64 (mget W a)) := by
  have hat := WideShapes.atKey_sorted (W.map (pE P k kV)) (h.rising K) (Ytailbppddnegoaa.klit P k kV a) (K.law.key (K.klit ha))
  by_cases hm : a ∈ W.map (·.1)
  · obtain ⟨p, hp, rfl⟩ := List.mem_map.1 hm
    rw [hat.2 (pE P k kV p) (List.mem_map.2 ⟨p, hp, rfl⟩) rfl, mget_mem h.2.1 hp]
    rfl
  · rw [hat.1 (fun x hx hxe => ?_), mget_none hm]
    obtain ⟨p, hp, rfl⟩ := List.mem_map.1 hx
    exact hm (List.mem_map.2 ⟨p, hp, K.klit_inj (h.2.2.1 p hp) ha hxe⟩)
theorem MapIs.has_ [DecidableEq α] (K : KeyT P k kV ok) (h : MapIs P k e kV ok w b W) {a : α} (ha : ok a) :
    Maps.has (DataW.map ((W.map (pE P k kV)).foldr DataW.insert [])) (Ytailbppddnegoaa.klit P k kV a) = mhas W a := by
  rw [Bool.eq_iff_iff, mhas_iff, Maps.has_eq, List.any_eq_true]
  constructor
  · rintro ⟨x, hx, hs⟩
    obtain ⟨p, hp, rfl⟩ := List.mem_map.1 (mem_sorted.1 hx)
    have := K.klit_inj (h.2.2.1 p hp) ha (WideAt.sameKey_eq hs)
    exact List.mem_map.2 ⟨p, hp, this⟩
  · intro hm
    obtain ⟨p, hp, rfl⟩ := List.mem_map.1 hm
    exact ⟨pE P k kV p, mem_sorted.2 (List.mem_map.2 ⟨p, hp, rfl⟩), WideAt.sameKey_self (K.law.key (K.klit ha))⟩
/-- 'm[k]'. -/
theorem MapIs.lookup [DecidableEq α] (K : KeyT P k kV ok) (h : MapIs P k e kV ok w b W) {t : TypeId} (ht : P.underlying t = some (.map k e)) (he : P.underlying e = some (.int .i64)) (hz : (zeroValue e).run P w = .ok (.int .i64 0) w) {a : α} (ha : ok a) :
    (Instr.lookup t (.map (some b)) (kV a) false).run P w = .ok (.int .i64 (mget W a)) w := by
  obtain ⟨c, hrun, hat, _⟩ := h.1.lookup_int K.law ht he hz (K.klit ha)
  rw [h.at_ K ha] at hat
  injection hat with hat
  injection hat with _ hat
  rw [hrun, hat]
/-- 'v, ok := m[k]'. -/
theorem MapIs.lookup_ok [DecidableEq α] (K : KeyT P k kV ok) (h : MapIs P k e kV ok w b W) {t : TypeId} (ht : P.underlying t = some (.map k e)) (he : P.underlying e = some (.int .i64)) (hz : (zeroValue e).run P w = .ok (.int .i64 0) w) {a : α} (ha : ok a) :
    (Instr.lookup t (.map (some b)) (kV a) true).run P w = .ok (.tuple #[.int .i64 (mget W a), .bool (mhas W a)]) w := by
  obtain ⟨v, ps, hrun, hv⟩ := h.1.look_ok K.law ht hz (plainElem_int (q := .i64) he (a := 0) (by decide)) (K.klit ha)
  obtain ⟨c, rfl, hc, hwc⟩ := plainElem_int_inv he hv
  simp only [Prod.mk.injEq] at hc
  have hc := hc.1
  rw [h.at_ K ha] at hc
  injection hc with hc
  injection hc with _ hc
  rw [hrun, h.has_ K ha, hc]
theorem ownsMap_tight {R : Value → Option (DataW Unit × List MemPlace)} {n : Nat} {l : List (Lit × DataW Unit)} (h : w.ownsMap P k R b n (.map l)) : w.ownsMap P k R b l.length (.map l) := by
  obtain ⟨es, clock, hb, F, hs, hD⟩ := h
  refine ⟨es, clock, hb, F, ?_, hD⟩
  injection hD with hD
  rw [hD, length_sorted]
  simp
/-- The same pairs in another order. -/
theorem MapIs.perm (K : KeyT P k kV ok) (h : MapIs P k e kV ok w b W) {W' : List (α × Int)} (hp : W.Perm W') : MapIs P k e kV ok w b W' := by
  have e1 : (W'.map (pE P k kV)).foldr DataW.insert [] = (W.map (pE P k kV)).foldr DataW.insert [] := by
    have hpm := hp.map (pE P k kV)
    have k1 := h.keys K
    have k2 : Maps.Keys (Maps.KeysOf P k) (W'.map (pE P k kV)) := Maps.keys_perm hpm k1
    have a2 : (W'.map (pE P k kV)).Pairwise (fun p q => p.1 ≠ q.1) := (hpm.pairwise_iff (fun {a b} (h : a.1 ≠ b.1) => h.symm)).1 (h.apart K)
    exact ChangeMaps.eq_of_perm_sorted (((sorted_perm _).trans hpm.symm).trans (sorted_perm _).symm) (Maps.sorted_sorted K.law.one _ k2 a2) (Maps.sorted_sorted K.law.one _ k1 (h.apart K))
  refine ⟨?_, (hp.map _).nodup_iff.1 h.2.1, fun p hp' => h.2.2.1 p (hp.mem_iff.2 hp'), fun p hp' => h.2.2.2 p (hp.mem_iff.2 hp')⟩
  rw [e1, ← hp.length_eq]
  exact h.1
theorem filter_notKey [DecidableEq α] (K : KeyT P k kV ok) {W : List (α × Int)} (hok : ∀ p ∈ W, ok p.1) {a : α} (ha : ok a) : (W.map (pE P k kV)).filter (notKey (Ytailbppddnegoaa.klit P k kV a)) = (W.filter fun p => decide (p.1 ≠ a)).map (pE P k kV) := by
  rw [List.filter_map]
  congr 1
  refine List.filter_congr fun p hp => ?_
  rw [Bool.eq_iff_iff, Function.comp, Maps.notKey_iff (K.law.key (K.klit ha)), decide_eq_true_eq]
  constructor
  · intro h e
    exact h (by rw [← e]; rfl)
  · intro h e
    exact h (K.klit_inj (hok p hp) ha e)
/-- 'm[k] = v': the pairs behind it, in whatever order. -/
theorem MapIs.update [DecidableEq α] (K : KeyT P k kV ok) (h : MapIs P k e kV ok w b W) {t : TypeId} (ht : P.underlying t = some (.map k e)) (he : P.underlying e = some (.int .i64)) (hn : W.length < maxLen) {a : α} (ha : ok a) {n : Int} (hw : (Lit.int .i64 n).wf = true)
    {W' : List (α × Int)} (hp : W'.Perm ((a, n) :: W.filter fun p => decide (p.1 ≠ a))) :
    ∃ w', (Instr.mapUpdate t (.map (some b)) (kV a) (.int .i64 n)).run P w = .ok () w' ∧ MapIs P k e kV ok w' b W' ∧ w.grownBy w' (some b) := by
  obtain ⟨w', hrun, ho, hg⟩ := h.1.update K.law ht hn (K.klit ha) (plainElem_int he hw)
  have hpm : (W'.map (pE P k kV)).Perm ((Ytailbppddnegoaa.klit P k kV a, DataW.lit (.int .i64 n)) :: (W.map (pE P k kV)).filter (notKey (Ytailbppddnegoaa.klit P k kV a))) := by
    rw [filter_notKey K h.2.2.1 ha]
    exact hp.map (pE P k kV)
  have e1 := Maps.sorted_put K.law.one (d := DataW.lit (.int .i64 n)) ⟨_, K.klit ha⟩ (h.keys K) (h.apart K) hpm
  rw [DataW.put_eq, ← e1] at ho
  have ho' := ownsMap_tight ho
  rw [length_sorted, List.length_map] at ho'
  have hnd : (W'.map (·.1)).Nodup := by
    rw [(hp.map (·.1)).nodup_iff]
    simp only [List.map_cons, List.nodup_cons]
    refine ⟨?_, ?_⟩
    · intro hm
      obtain ⟨p, hp', he'⟩ := List.mem_map.1 hm
      have := (List.mem_filter.1 hp').2
      simp at this
      exact this he'
    · exact (List.filter_sublist.map _).nodup h.2.1
  refine ⟨w', hrun, ⟨ho', hnd, ?_, ?_⟩, hg⟩
  · intro p hp'
    rcases List.mem_cons.1 (hp.mem_iff.1 hp') with rfl | hp'
    · exact ha
    · exact h.2.2.1 p (List.mem_filter.1 hp').1
  · intro p hp'
    rcases List.mem_cons.1 (hp.mem_iff.1 hp') with rfl | hp'
    · exact hw
    · exact h.2.2.2 p (List.mem_filter.1 hp').1
/-- 'delete(m, k)'. -/
theorem MapIs.delete [DecidableEq α] (K : KeyT P k kV ok) (h : MapIs P k e kV ok w b W) {t ty : TypeId} (ht : P.underlying t = some (.map k e)) {a : α} (ha : ok a)
    {W' : List (α × Int)} (hp : W'.Perm (W.filter fun p => decide (p.1 ≠ a))) :
    ∃ w', (Builtin.delete_ #[t, k] ty #[.map (some b), kV a]).run P w = .ok (.tuple #[]) w' ∧ MapIs P k e kV ok w' b W' ∧ w.grownBy w' (some b) := by
  obtain ⟨w', hrun, ho, hg⟩ := h.1.drop K.law ht (K.klit ha) ty
  have hpm : (W'.map (pE P k kV)).Perm ((W.map (pE P k kV)).filter (notKey (Ytailbppddnegoaa.klit P k kV a))) := by
    rw [filter_notKey K h.2.2.1 ha]
    exact hp.map (pE P k kV)
  have e1 := Maps.sorted_del K.law.one (h.keys K) (h.apart K) hpm
  rw [DataW.del_eq, ← e1] at ho
  have ho' := ownsMap_tight ho
  rw [length_sorted, List.length_map] at ho'
  have hnd : (W'.map (·.1)).Nodup := by
    rw [(hp.map (·.1)).nodup_iff]
    exact (List.filter_sublist.map _).nodup h.2.1
  exact ⟨w', hrun, ⟨ho', hnd, fun p hp' => h.2.2.1 p (List.mem_filter.1 (hp.mem_iff.1 hp')).1, fun p hp' => h.2.2.2 p (List.mem_filter.1 (hp.mem_iff.1 hp')).1⟩, hg.grown⟩

/-! A range over such a map: which keys have come. -/
/-- No key twice; a key has come just where the map has it and it is no longer to come. -/
def Come (P : Program) (k : TypeId) (kV : α → Value) (ok : α → Prop) (W : List (α × Int)) (left : Lit → Bool) (ss : List α) : Prop :=
  ss.Nodup ∧ (∀ x ∈ ss, ok x) ∧ ∀ x, ok x → (x ∈ ss ↔ (x ∈ W.map (·.1) ∧ left (Ytailbppddnegoaa.klit P k kV x) = false))
theorem Come.start [DecidableEq α] (K : KeyT P k kV ok) (h : MapIs P k e kV ok w b W) : Come P k kV ok W (Maps.has (DataW.map ((W.map (pE P k kV)).foldr DataW.insert []))) [] := by
  refine ⟨List.nodup_nil, by simp, fun x hx => ?_⟩
  rw [h.has_ K hx, ← mhas_iff]
  cases mhas W x <;> simp
theorem Come.step [DecidableEq α] (K : KeyT P k kV ok) (h : MapIs P k e kV ok w b W) {left : Lit → Bool} {ss : List α} (hC : Come P k kV ok W left ss) {x : α} (hx : ok x) {y : DataW Unit} (hlk : left (Ytailbppddnegoaa.klit P k kV x) = true)
    (hat : ∀ zd, (DataW.map ((W.map (pE P k kV)).foldr DataW.insert [])).atKey (Ytailbppddnegoaa.klit P k kV x) zd = y) : Come P k kV ok W (fun z => left z && !z.sameKey (Ytailbppddnegoaa.klit P k kV x)) (ss ++ [x]) := by
  have hhas := Maps.has_true_of_atKey hat
  rw [h.has_ K hx] at hhas
  have hnew : x ∉ ss := fun hm => by have := ((hC.2.2 x hx).1 hm).2; rw [hlk] at this; cases this
  refine ⟨List.nodup_append.2 ⟨hC.1, by simp, fun a ha b hb => by simp at hb; subst hb; exact fun e => hnew (e ▸ ha)⟩, ?_, fun y hy => ?_⟩
  · intro y hy
    rcases List.mem_append.1 hy with hy | hy
    · exact hC.2.1 y hy
    · simp at hy; subst hy; exact hx
  · by_cases hyx : y = x
    · subst hyx
      have := WideAt.sameKey_self (K.law.key (K.klit hx))
      simp [(mhas_iff W y).1 hhas, this]
    · have hs : (Ytailbppddnegoaa.klit P k kV y).sameKey (Ytailbppddnegoaa.klit P k kV x) = false := by
        cases hs : (Ytailbppddnegoaa.klit P k kV y).sameKey (Ytailbppddnegoaa.klit P k kV x)
        · rfl
        · exact absurd (K.klit_inj hy hx (WideAt.sameKey_eq hs)) hyx
      simp only [List.mem_append, List.mem_singleton, hyx, or_false, hs, Bool.not_false, Bool.and_true]
      exact hC.2.2 y hy
theorem Come.perm (h : MapIs P k e kV ok w b W) {left : Lit → Bool} {ss : List α} (hC : Come P k kV ok W left ss) (hl : ∀ kl, left kl = false) : ss.Perm (W.map (·.1)) := by
  refine (List.perm_ext_iff_of_nodup hC.1 h.2.1).2 fun x => ?_
  constructor
  · intro hx
    exact ((hC.2.2 x (hC.2.1 x hx)).1 hx).1
  · intro hx
    obtain ⟨p, hp, rfl⟩ := List.mem_map.1 hx
    exact (hC.2.2 p.1 (h.2.2.1 p hp)).2 ⟨hx, hl _⟩
end
end Go.Proofs.Ytailbppddnegoaa
/- Actors and dots as pairs of numbers, their orders, lists in order (plain; no program in sight). -/
namespace Go.Proofs.Ytailbppddnegoaa
set_option linter.unusedVariables false

/-- An actor: its device, its incarnation. -/
abbrev Ac := Int × Int
/-- A dot, or a mark: an actor, a number. -/
abbrev Dt := Ac × Int
def aLt (a b : Ac) : Bool := decide (a.1 < b.1 ∨ (a.1 = b.1 ∧ a.2 < b.2))
def dLt (x y : Dt) : Bool := decide (x.1.1 < y.1.1 ∨ (x.1.1 = y.1.1 ∧ (x.1.2 < y.1.2 ∨ (x.1.2 = y.1.2 ∧ x.2 < y.2))))
theorem ac_ext {a b : Ac} (h1 : a.1 = b.1) (h2 : a.2 = b.2) : a = b := Prod.ext h1 h2
theorem dt_ext {a b : Dt} (h1 : a.1.1 = b.1.1) (h2 : a.1.2 = b.1.2) (h3 : a.2 = b.2) : a = b := Prod.ext (Prod.ext h1 h2) h3
theorem aLt_irrefl (a : Ac) : aLt a a = false := by simp [aLt]
theorem aLt_trans {a b c : Ac} (h : aLt a b = true) (k : aLt b c = true) : aLt a c = true := by
  simp only [aLt, decide_eq_true_eq] at *; omega
theorem aLt_tri {a b : Ac} (h : aLt a b = false) (k : aLt b a = false) : a = b := by
  simp only [aLt, decide_eq_false_iff_not] at *
  exact ac_ext (by omega) (by omega)
theorem aLt_asymm {a b : Ac} (h : aLt a b = true) : aLt b a = false := by
  simp only [aLt, decide_eq_true_eq, decide_eq_false_iff_not] at *; omega
theorem dLt_irrefl (a : Dt) : dLt a a = false := by simp [dLt]
theorem dLt_trans {a b c : Dt} (h : dLt a b = true) (k : dLt b c = true) : dLt a c = true := by
  simp only [dLt, decide_eq_true_eq] at *; omega
theorem dLt_tri {a b : Dt} (h : dLt a b = false) (k : dLt b a = false) : a = b := by
  simp only [dLt, decide_eq_false_iff_not] at *
  exact dt_ext (by omega) (by omega) (by omega)
theorem dLt_asymm {a b : Dt} (h : dLt a b = true) : dLt b a = false := by
  simp only [dLt, decide_eq_true_eq, decide_eq_false_iff_not] at *; omega
theorem dLt_of_aLt {x y : Dt} (h : aLt x.1 y.1 = true) : dLt x y = true := by
  simp only [dLt, aLt, decide_eq_true_eq] at *; omega

/-! Lists in order: one by their members. -/
section
variable {α : Type} {r : α → α → Bool}
theorem pw_ext (hi : ∀ a, r a a = false) (ht : ∀ a b c, r a b = true → r b c = true → r a c = true) {l m : List α} (hl : l.Pairwise fun x y => r x y = true) (hm : m.Pairwise fun x y => r x y = true) (h : ∀ x, x ∈ l ↔ x ∈ m) : l = m := by
  induction l generalizing m with
  | nil =>
    cases m with
    | nil => rfl
    | cons y t => exact absurd ((h y).2 (List.mem_cons_self ..)) (by simp)
  | cons x s ih =>
    cases m with
    | nil => exact absurd ((h x).1 (List.mem_cons_self ..)) (by simp)
    | cons y t =>
      rw [List.pairwise_cons] at hl hm
      have hxy : x = y := by
        rcases List.mem_cons.1 ((h x).1 (List.mem_cons_self ..)) with e | hx
        · exact e
        · rcases List.mem_cons.1 ((h y).2 (List.mem_cons_self ..)) with e | hy
          · exact e.symm
          · have := ht _ _ _ (hl.1 y hy) (hm.1 x hx)
            rw [hi] at this; cases this
      subst hxy
      congr 1
      refine ih hl.2 hm.2 fun z => ?_
      constructor
      · intro hz
        rcases List.mem_cons.1 ((h z).1 (List.mem_cons_of_mem _ hz)) with e | hz'
        · subst e
          have := hl.1 z hz; rw [hi] at this; cases this
        · exact hz'
      · intro hz
        rcases List.mem_cons.1 ((h z).2 (List.mem_cons_of_mem _ hz)) with e | hz'
        · subst e
          have := hm.1 z hz; rw [hi] at this; cases this
        · exact hz'
theorem pw_nodup (hi : ∀ a, r a a = false) {l : List α} (hl : l.Pairwise fun x y => r x y = true) : l.Nodup :=
  hl.imp fun {a b} h e => by subst e; rw [hi] at h; cases h
/-- A list in order, of which another one is a permutation, is what is sorted of it. -/
theorem pw_sort (hi : ∀ a, r a a = false) (ht : ∀ a b c, r a b = true → r b c = true → r a c = true) (hc : ∀ a b, r a b = false → r b a = false → a = b) {l m : List α} (hm : m.Pairwise fun x y => r x y = true) (hp : l.Perm m) :
    (l.mergeSort fun x y => !r y x) = m := by
  have hnd : l.Nodup := hp.nodup_iff.2 (pw_nodup hi hm)
  have h1 := List.pairwise_mergeSort (le := fun x y => !r y x) (fun a b c h k => by
    simp only [Bool.not_eq_true'] at *
    cases hca : r c a with
    | false => rfl
    | true =>
      exfalso
      cases hab : r a b with
      | true => have := ht _ _ _ hca hab; rw [k] at this; cases this
      | false => have := hc _ _ hab h; subst this; rw [k] at hca; cases hca) (fun a b => by
    cases h : r b a with
    | false => simp
    | true =>
      cases k : r a b with
      | false => simp
      | true => have := ht _ _ _ h k; rw [hi] at this; cases this) l
  have hp2 := List.mergeSort_perm l (fun x y => !r y x)
  refine pw_ext hi ht ?_ hm fun x => ?_
  · have hn2 : (l.mergeSort fun x y => !r y x).Nodup := hp2.nodup_iff.2 hnd
    have := List.Pairwise.and h1 hn2
    refine this.imp fun {a b} ⟨h, hne⟩ => ?_
    cases hab : r a b with
    | true => rfl
    | false =>
      simp only [Bool.not_eq_true'] at h
      exact absurd (hc _ _ hab h) hne
  · exact (hp2.trans hp).mem_iff
end
/-- Marks in order. -/
def Srt (M : List Dt) : Prop := M.Pairwise fun x y => aLt x.1 y.1 = true
/-- Dots in order. -/
def DSrt (L : List Dt) : Prop := L.Pairwise fun x y => dLt x y = true
theorem Srt.dsrt {M : List Dt} (h : Srt M) : DSrt M := h.imp dLt_of_aLt
theorem Srt.keys {M : List Dt} (h : Srt M) : (M.map (·.1)).Pairwise fun x y => aLt x y = true := List.pairwise_map.2 h
theorem Srt.nodup {M : List Dt} (h : Srt M) : (M.map (·.1)).Nodup := pw_nodup aLt_irrefl h.keys
theorem srt_ext {M N : List Dt} (h : Srt M) (k : Srt N) (hm : ∀ x, x ∈ M ↔ x ∈ N) : M = N :=
  pw_ext dLt_irrefl (fun _ _ _ => dLt_trans) h.dsrt k.dsrt hm
theorem dsrt_ext {M N : List Dt} (h : DSrt M) (k : DSrt N) (hm : ∀ x, x ∈ M ↔ x ∈ N) : M = N :=
  pw_ext dLt_irrefl (fun _ _ _ => dLt_trans) h k hm
theorem srt_unique {M : List Dt} (h : Srt M) {x y : Dt} (hx : x ∈ M) (hy : y ∈ M) (e : x.1 = y.1) : x = y := by
  have := mget_mem h.nodup hx
  rw [e, mget_mem h.nodup hy] at this
  exact Prod.ext e this.symm
theorem srt_iff_mget {M : List Dt} (h : Srt M) (x : Dt) : x ∈ M ↔ x.1 ∈ M.map (·.1) ∧ mget M x.1 = x.2 := by
  constructor
  · intro hx
    exact ⟨List.mem_map.2 ⟨x, hx, rfl⟩, mget_mem h.nodup hx⟩
  · rintro ⟨h1, h2⟩
    obtain ⟨y, hy, e⟩ := List.mem_map.1 h1
    rw [← e, mget_mem h.nodup hy] at h2
    have : x = y := Prod.ext e.symm h2.symm
    rw [this]; exact hy

/-- A mark put in its place. -/
def rset : List Dt → Ac → Int → List Dt
  | [], a, n => [(a, n)]
  | x :: r, a, n => if aLt x.1 a then x :: rset r a n else if x.1 = a then (a, n) :: r else (a, n) :: x :: r
theorem mem_rset {M : List Dt} (h : Srt M) (a : Ac) (n : Int) (x : Dt) : x ∈ rset M a n ↔ x = (a, n) ∨ (x ∈ M ∧ x.1 ≠ a) := by
  induction M with
  | nil => simp [rset]
  | cons y r ih =>
    have hs := List.pairwise_cons.1 h
    have ih := ih hs.2
    unfold rset
    by_cases h1 : aLt y.1 a = true
    · rw [if_pos h1, List.mem_cons, ih, List.mem_cons]
      have hne : y.1 ≠ a := fun e => by rw [e, aLt_irrefl] at h1; cases h1
      constructor
      · rintro (rfl | h | h)
        · exact .inr ⟨.inl rfl, hne⟩
        · exact .inl h
        · exact .inr ⟨.inr h.1, h.2⟩
      · rintro (h | ⟨h | h, k⟩)
        · exact .inr (.inl h)
        · exact .inl h
        · exact .inr (.inr ⟨h, k⟩)
    · rw [if_neg h1]
      have hall : ∀ z ∈ r, z.1 ≠ a := fun z hz e => by
        have := hs.1 z hz
        rw [e] at this; exact h1 this
      by_cases h2 : y.1 = a
      · rw [if_pos h2, List.mem_cons, List.mem_cons]
        constructor
        · rintro (h | h)
          · exact .inl h
          · exact .inr ⟨.inr h, hall x h⟩
        · rintro (h | ⟨h | h, k⟩)
          · exact .inl h
          · subst h; exact absurd h2 k
          · exact .inr h
      · rw [if_neg h2, List.mem_cons, List.mem_cons]
        constructor
        · rintro (h | h | h)
          · exact .inl h
          · subst h; exact .inr ⟨.inl rfl, h2⟩
          · exact .inr ⟨.inr h, hall x h⟩
        · rintro (h | ⟨h | h, k⟩)
          · exact .inl h
          · exact .inr (.inl h)
          · exact .inr (.inr h)
theorem srt_rset {M : List Dt} (h : Srt M) (a : Ac) (n : Int) : Srt (rset M a n) := by
  induction M with
  | nil => simp [rset, Srt]
  | cons y r ih =>
    have hs := List.pairwise_cons.1 h
    unfold rset
    by_cases h1 : aLt y.1 a = true
    · rw [if_pos h1]
      refine List.pairwise_cons.2 ⟨fun z hz => ?_, ih hs.2⟩
      rcases (mem_rset hs.2 a n z).1 hz with rfl | ⟨hz, _⟩
      · exact h1
      · exact hs.1 z hz
    · rw [if_neg h1]
      by_cases h2 : y.1 = a
      · rw [if_pos h2]
        subst h2
        exact List.pairwise_cons.2 ⟨hs.1, hs.2⟩
      · rw [if_neg h2]
        have h3 : aLt a y.1 = true := by
          cases h3 : aLt a y.1 with
          | true => rfl
          | false => exact absurd (aLt_tri (by simpa using h1) h3) h2
        refine List.pairwise_cons.2 ⟨fun z hz => ?_, h⟩
        rcases List.mem_cons.1 hz with rfl | hz
        · exact h3
        · exact aLt_trans h3 (hs.1 z hz)
theorem nodup_of_map {α β : Type} (f : α → β) {l : List α} (h : (l.map f).Nodup) : l.Nodup := by
  rw [List.nodup_iff_pairwise_ne, List.pairwise_map] at h
  rw [List.nodup_iff_pairwise_ne]
  exact h.imp fun {a b} hne e => hne (by rw [e])
theorem rset_perm {M : List Dt} (h : Srt M) (a : Ac) (n : Int) : (rset M a n).Perm ((a, n) :: M.filter fun p => decide (p.1 ≠ a)) := by
  refine (List.perm_ext_iff_of_nodup (nodup_of_map _ (srt_rset h a n).nodup) ?_).2 fun x => ?_
  · refine List.nodup_cons.2 ⟨fun hm => ?_, List.filter_sublist.nodup (nodup_of_map _ h.nodup)⟩
    have := (List.mem_filter.1 hm).2
    simp at this
  · rw [mem_rset h, List.mem_cons, List.mem_filter]
    simp
theorem mget_rset {M : List Dt} (h : Srt M) (a : Ac) (n : Int) (c : Ac) : mget (rset M a n) c = if c = a then n else mget M c := by
  have hs := srt_rset h a n
  split
  · rename_i e
    subst e
    exact mget_mem hs.nodup (p := (c, n)) ((mem_rset h _ _ _).2 (.inl rfl))
  · rename_i hne
    by_cases hc : c ∈ M.map (·.1)
    · obtain ⟨y, hy, rfl⟩ := List.mem_map.1 hc
      rw [mget_mem h.nodup hy]
      exact mget_mem hs.nodup ((mem_rset h _ _ _).2 (.inr ⟨hy, hne⟩))
    · rw [mget_none hc, mget_none]
      intro hm
      obtain ⟨y, hy, rfl⟩ := List.mem_map.1 hm
      rcases (mem_rset h _ _ _).1 hy with rfl | ⟨hy, _⟩
      · exact hne rfl
      · exact hc (List.mem_map.2 ⟨y, hy, rfl⟩)
/-- A mark put in its place, as the document does it. -/
def setL : List Dt → Ac → Int → Bool → List Dt
  | [], a, n, i => if i then [] else [(a, n)]
  | x :: r, a, n, i => (if !i && !aLt x.1 a then [(a, n)] else []) ++ (if x.1 ≠ a then [x] else []) ++ setL r a n (i || !aLt x.1 a)
theorem setL_true (M : List Dt) (a : Ac) (n : Int) : setL M a n true = M.filter fun p => decide (p.1 ≠ a) := by
  induction M with
  | nil => rfl
  | cons x r ih =>
    simp only [setL, Bool.not_true, Bool.false_and, Bool.false_eq_true, if_false, List.nil_append, Bool.true_or, ih, List.filter_cons, decide_eq_true_eq]
    split <;> rfl
theorem setL_eq {M : List Dt} (h : Srt M) (a : Ac) (n : Int) : setL M a n false = rset M a n := by
  induction M with
  | nil => rfl
  | cons x r ih =>
    have hs := List.pairwise_cons.1 h
    unfold setL rset
    by_cases h1 : aLt x.1 a = true
    · have hne : x.1 ≠ a := fun e => by rw [e, aLt_irrefl] at h1; cases h1
      simp [h1, hne, ih hs.2]
    · rw [if_neg h1]
      have h1' : aLt x.1 a = false := by simpa using h1
      have hf : r.filter (fun p => decide (p.1 ≠ a)) = r := List.filter_eq_self.2 fun z hz => by
        rw [decide_eq_true_eq]
        intro e
        have := hs.1 z hz
        rw [e] at this; exact h1 this
      simp only [h1', Bool.not_false, Bool.and_self, if_true, Bool.or_true, setL_true, hf]
      by_cases h2 : x.1 = a
      · simp [h2]
      · simp [h2]
end Go.Proofs.Ytailbppddnegoaa
/- Keys that are actors and dots: what they read as. -/
namespace Go.Proofs.Ytailbppddnegoaa
open Go.RowKit
set_option linter.unusedVariables false
set_option maxRecDepth 100000

theorem keyLits_i64 {P : Program} {d : Nat} {t : TypeId} (hu : P.underlying t = some (.int .i64)) {cs : List Value} {l : List Lit} (h : P.keyLits d t cs = some l) : ∃ n, cs = [.int .i64 n] ∧ (Lit.int .i64 n).wf = true := by
  cases d with
  | zero => simp [Program.keyLits] at h
  | succ d =>
    obtain ⟨n, rfl, rfl⟩ := keyLits_int' hu h
    unfold Program.keyLits at h
    rw [hu] at h
    simp only at h
    split at h
    · rename_i hw
      exact ⟨n, rfl, hw.2⟩
    · cases h
theorem keyLits_i64_mk {P : Program} {d : Nat} {t : TypeId} (hu : P.underlying t = some (.int .i64)) {n : Int} (hw : (Lit.int .i64 n).wf = true) : P.keyLits (d + 1) t [.int .i64 n] = some [.int .i64 n] := by
  unfold Program.keyLits
  rw [hu]
  simp [hw]
/-- An actor's cells, its value; may it be a key? -/
def acC (a : Ac) : List Value := [.int .i64 a.1, .int .i64 a.2]
def acV (a : Ac) : Value := .agg #[.int .i64 a.1, .int .i64 a.2]
def acOk (a : Ac) : Prop := (Lit.int .i64 a.1).wf = true ∧ (Lit.int .i64 a.2).wf = true
/-- A dot's. -/
def dtC (x : Dt) : List Value := [.int .i64 x.1.1, .int .i64 x.1.2, .int .i64 x.2]
def dtV (x : Dt) : Value := .agg #[.int .i64 x.1.1, .int .i64 x.1.2, .int .i64 x.2]
def dtOk (x : Dt) : Prop := (Lit.int .i64 x.1.1).wf = true ∧ (Lit.int .i64 x.1.2).wf = true ∧ (Lit.int .i64 x.2).wf = true
theorem actor_lits (m : Nat) (xs : List Value) (l : List Lit) (h : Try.prog.keyLits (m + 1) 25 xs = some l) : ∃ a, acOk a ∧ xs = [.int .i64 a.1, .int .i64 a.2] := by
  have hc : Try.prog.cellsOf 25 = 2 := by kernel_rfl
  have hi : Try.prog.cellsOf 3 = 1 := by kernel_rfl
  unfold Program.keyLits at h
  rw [Try.underlying25] at h
  simp only [hc] at h
  split at h
  · rename_i hl
    obtain ⟨hl, _⟩ := hl
    obtain ⟨x, y, rfl⟩ : ∃ x y, xs = [x, y] := by
      match xs, hl with
      | [x, y], _ => exact ⟨x, y, rfl⟩
    simp [hi, List.mapM_cons, Option.bind_eq_some_iff] at h
    obtain ⟨a, ha, b, ⟨a', hb, _⟩, _⟩ := h
    obtain ⟨n1, e1, w1⟩ := keyLits_i64 Try.underlying3 ha
    obtain ⟨n2, e2, w2⟩ := keyLits_i64 Try.underlying3 hb
    simp at e1 e2
    subst e1 e2
    exact ⟨(n1, n2), ⟨w1, w2⟩, rfl⟩
  · cases h
theorem actor_lits_mk (m : Nat) (a : Ac) (h : acOk a) : Try.prog.keyLits (m + 2) 25 [.int .i64 a.1, .int .i64 a.2] = some [.int .i64 a.1, .int .i64 a.2] := by
  have hc : Try.prog.cellsOf 25 = 2 := by kernel_rfl
  have hi : Try.prog.cellsOf 3 = 1 := by kernel_rfl
  have k1 := keyLits_i64_mk (d := m) Try.underlying3 h.1
  have k2 := keyLits_i64_mk (d := m) Try.underlying3 h.2
  unfold Program.keyLits
  rw [Try.underlying25]
  simp [hc, hi, List.mapM_cons, k1, k2]
theorem actor_wide : (match Try.prog.underlying 25 with | some (.array _ _) | some (.struct _) => true | _ => false) = true := by rw [Try.underlying25]
theorem size_big : ∃ m, Try.prog.types.size = m + 3 := ⟨Try.prog.types.size - 3, by
  have h : 3 ≤ Try.prog.types.size := of_decide_eq_true (by kernel_rfl)
  omega⟩
theorem laidOutK : laidOutB Try.prog = true := by kernel_rfl
theorem actor_key : KeyT Try.prog 25 acV acOk where
  law := Maps.Keyed.of_law (deep_law_laid laidOutK (m := 3) (by omega) (of_decide_eq_true (by kernel_rfl)) (by kernel_rfl) actor_wide)
  of a h := by
    obtain ⟨m, hm⟩ := size_big
    have hk : Try.prog.keyType 25 = true := by kernel_rfl
    have hc : Try.prog.cellsOf 25 = 2 := by kernel_rfl
    have hf : (acV a).formed Try.prog 25 = true := by
      unfold acV Value.formed
      simp only [Try.underlying25, hc]
      rfl
    have hl := actor_lits_mk (m + 2) a h
    rw [show m + 2 + 2 = m + 3 + 1 by omega, ← hm] at hl
    have hcs : (acV a).cells.toList = [.int .i64 a.1, .int .i64 a.2] := by simp [acV, Value.cells]
    refine ⟨.string (keyBytes [.int .i64 a.1, .int .i64 a.2]), ?_⟩
    unfold keyOf
    rw [Try.underlying25]
    rw [← hcs] at hl
    simp only [hk, hf, Bool.and_self, if_true, hl, Option.map_some]
  inv v l h := by
    obtain ⟨xs, L, rfl, hL, _⟩ := keyOf_top actor_wide h
    obtain ⟨a, ha, hx⟩ := actor_lits _ _ _ hL
    refine ⟨a, ha, ?_⟩
    unfold acV
    congr 1
    apply Array.toList_inj.1
    simpa using hx
  inj a b h := by
    simp [acV] at h
    exact Prod.ext h.1 h.2
theorem dot_lits (m : Nat) (xs : List Value) (l : List Lit) (h : Try.prog.keyLits (m + 1) 27 xs = some l) : ∃ a, dtOk a ∧ xs = dtC a := by
  have hc : Try.prog.cellsOf 27 = 3 := by kernel_rfl
  have ha : Try.prog.cellsOf 25 = 2 := by kernel_rfl
  have hi : Try.prog.cellsOf 3 = 1 := by kernel_rfl
  unfold Program.keyLits at h
  rw [Try.underlying27] at h
  simp only [hc] at h
  split at h
  · rename_i hl
    obtain ⟨hl, _⟩ := hl
    obtain ⟨x, y, z, rfl⟩ : ∃ x y z, xs = [x, y, z] := by
      match xs, hl with
      | [x, y, z], _ => exact ⟨x, y, z, rfl⟩
    simp [hi, ha, List.mapM_cons, Option.bind_eq_some_iff] at h
    obtain ⟨a, h1, b, ⟨a', h2, _⟩, _⟩ := h
    cases m with
    | zero => simp [Program.keyLits] at h1
    | succ m =>
      obtain ⟨p, hp, e1⟩ := actor_lits m _ _ h1
      obtain ⟨n2, e2, w2⟩ := keyLits_i64 Try.underlying3 h2
      simp at e1 e2
      obtain ⟨rfl, rfl⟩ := e1
      subst e2
      exact ⟨(p, n2), ⟨hp.1, hp.2, w2⟩, rfl⟩
  · cases h
theorem dot_lits_mk (m : Nat) (a : Dt) (h : dtOk a) : Try.prog.keyLits (m + 3) 27 [.int .i64 a.1.1, .int .i64 a.1.2, .int .i64 a.2] = some [.int .i64 a.1.1, .int .i64 a.1.2, .int .i64 a.2] := by
  have hc : Try.prog.cellsOf 27 = 3 := by kernel_rfl
  have ha : Try.prog.cellsOf 25 = 2 := by kernel_rfl
  have hi : Try.prog.cellsOf 3 = 1 := by kernel_rfl
  have k1 := actor_lits_mk m a.1 ⟨h.1, h.2.1⟩
  have k2 := keyLits_i64_mk (d := m + 1) Try.underlying3 h.2.2
  unfold Program.keyLits
  rw [Try.underlying27]
  simp [hc, ha, hi, List.mapM_cons, k1, k2]
theorem dot_wide : (match Try.prog.underlying 27 with | some (.array _ _) | some (.struct _) => true | _ => false) = true := by rw [Try.underlying27]
theorem dot_key : KeyT Try.prog 27 dtV dtOk where
  law := Maps.Keyed.of_law (deep_law_laid laidOutK (m := 3) (by omega) (of_decide_eq_true (by kernel_rfl)) (by kernel_rfl) dot_wide)
  of a h := by
    obtain ⟨m, hm⟩ := size_big
    have hk : Try.prog.keyType 27 = true := by kernel_rfl
    have hc : Try.prog.cellsOf 27 = 3 := by kernel_rfl
    have hf : (dtV a).formed Try.prog 27 = true := by
      unfold dtV Value.formed
      simp only [Try.underlying27, hc]
      rfl
    have hl := dot_lits_mk (m + 1) a h
    rw [show m + 1 + 3 = m + 3 + 1 by omega, ← hm] at hl
    have hcs : (dtV a).cells.toList = [.int .i64 a.1.1, .int .i64 a.1.2, .int .i64 a.2] := by simp [dtV, Value.cells]
    refine ⟨.string (keyBytes [.int .i64 a.1.1, .int .i64 a.1.2, .int .i64 a.2]), ?_⟩
    unfold keyOf
    rw [Try.underlying27]
    rw [← hcs] at hl
    simp only [hk, hf, Bool.and_self, if_true, hl, Option.map_some]
  inv v l h := by
    obtain ⟨xs, L, rfl, hL, _⟩ := keyOf_top dot_wide h
    obtain ⟨a, ha, hx⟩ := dot_lits _ _ _ hL
    refine ⟨a, ha, ?_⟩
    unfold dtV
    congr 1
    apply Array.toList_inj.1
    simpa [dtC] using hx
  inj a b h := by
    simp [dtV] at h
    exact Prod.ext (Prod.ext h.1 h.2.1) h.2.2
end Go.Proofs.Ytailbppddnegoaa
