/- Maps keyed by structs of whole numbers, with whole numbers as elements: a map block read as a list of pairs (in whatever order), and what look-ups, stores and deletes do to it. -/
import Derived.Test.YtailbppddnegoaaW5
import Derived.Maps.Own
import Derived.Maps.OwnSet
import Derived.Maps.Range
import Derived.DeepKeys4
namespace Go.Proofs.Ytailbppddnegoaa
open Go.RowKit
open Go.ChangeMaps (notKey putKey delKey)
open Go.WideShapes (sorted_perm)
set_option linter.unusedVariables false
set_option maxRecDepth 100000

/-! Lists of pairs. -/
section
variable {α : Type} [DecidableEq α]
/-- The number at a key; 0 where there is none. -/
def mget : List (α × Int) → α → Int
  | [], _ => 0
  | p :: r, a => if p.1 = a then p.2 else mget r a
def mhas (W : List (α × Int)) (a : α) : Bool := W.any fun p => decide (p.1 = a)
theorem mhas_iff (W : List (α × Int)) (a : α) : mhas W a = true ↔ a ∈ W.map (·.1) := by
  unfold mhas
  rw [List.any_eq_true]
  simp only [List.mem_map, decide_eq_true_eq]
theorem mget_none {W : List (α × Int)} {a : α} (h : a ∉ W.map (·.1)) : mget W a = 0 := by
  induction W with
  | nil => rfl
  | cons p r ih =>
    simp only [List.map_cons, List.mem_cons, not_or] at h
    unfold mget
    rw [if_neg (fun e => h.1 e.symm)]
    exact ih h.2
theorem mget_mem {W : List (α × Int)} (hn : (W.map (·.1)).Nodup) {p : α × Int} (h : p ∈ W) : mget W p.1 = p.2 := by
  induction W with
  | nil => cases h
  | cons q r ih =>
    simp only [List.map_cons, List.nodup_cons] at hn
    unfold mget
    rcases List.mem_cons.1 h with rfl | h'
    · rw [if_pos rfl]
    · rw [if_neg (fun e => hn.1 (by rw [e]; exact List.mem_map.2 ⟨p, h', rfl⟩))]
      exact ih hn.2 h'
theorem mget_perm {W W' : List (α × Int)} (hn : (W.map (·.1)).Nodup) (hp : W.Perm W') (a : α) : mget W a = mget W' a := by
  have hn' : (W'.map (·.1)).Nodup := (hp.map _).nodup_iff.1 hn
  by_cases ha : a ∈ W.map (·.1)
  · obtain ⟨p, hpm, rfl⟩ := List.mem_map.1 ha
    rw [mget_mem hn hpm, mget_mem hn' (hp.mem_iff.1 hpm)]
  · rw [mget_none ha, mget_none (fun h => ha ((hp.map _).mem_iff.2 h))]
theorem mhas_perm {W W' : List (α × Int)} (hp : W.Perm W') (a : α) : mhas W a = mhas W' a := by
  rw [Bool.eq_iff_iff, mhas_iff, mhas_iff]
  exact (hp.map _).mem_iff
end

/-- What is asked of a key's type: how keys are written, which may be. -/
structure KeyT {α : Type} (P : Program) (k : TypeId) (kV : α → Value) (ok : α → Prop) : Prop where
  law : Maps.Keyed P k
  of : ∀ a, ok a → ∃ l, keyOf P k (kV a) = some l
  inv : ∀ v l, keyOf P k v = some l → ∃ a, ok a ∧ v = kV a
  inj : ∀ a b, kV a = kV b → a = b

section
variable {α : Type} {P : Program} {k e : TypeId} {kV : α → Value} {ok : α → Prop} {w w' : World} {b : Nat} {W : List (α × Int)}
/-- What a key reads as. -/
def klit (P : Program) (k : TypeId) (kV : α → Value) (a : α) : Lit := (keyOf P k (kV a)).getD (.bool false)
theorem KeyT.klit (K : KeyT P k kV ok) {a : α} (h : ok a) : keyOf P k (kV a) = some (klit P k kV a) := by
  obtain ⟨l, hl⟩ := K.of a h
  simp [Ytailbppddnegoaa.klit, hl]
theorem KeyT.klit_inj (K : KeyT P k kV ok) {a c : α} (ha : ok a) (hc : ok c) (h : Ytailbppddnegoaa.klit P k kV a = Ytailbppddnegoaa.klit P k kV c) : a = c :=
  K.inj _ _ (K.law.inj (K.klit ha) (h ▸ K.klit hc))
/-- A pair as the reader has it. -/
def pE (P : Program) (k : TypeId) (kV : α → Value) (p : α × Int) : Lit × DataW Unit := (Ytailbppddnegoaa.klit P k kV p.1, .lit (.int .i64 p.2))
/-- Block b is a map whose entries are the pairs of W. -/
def MapIs (P : Program) (k e : TypeId) (kV : α → Value) (ok : α → Prop) (w : World) (b : Nat) (W : List (α × Int)) : Prop :=
  w.ownsMap P k (plainElem (H := Unit) P e) b W.length (.map ((W.map (pE P k kV)).foldr DataW.insert [])) ∧ (W.map (·.1)).Nodup ∧ (∀ p ∈ W, ok p.1) ∧ ∀ p ∈ W, (Lit.int .i64 p.2).wf = true
theorem MapIs.kept {row : Option Nat} (h : MapIs P k e kV ok w b W) (hg : w.grownBy w' row) (hne : some b ≠ row) : MapIs P k e kV ok w' b W := ⟨h.1.kept hg hne, h.2⟩
theorem MapIs.lt (h : MapIs P k e kV ok w b W) : b < w.heap.size := h.1.lt
theorem MapIs.alloc (h : MapIs P k e kV ok w b W) (o : Obj) : MapIs P k e kV ok (w.alloc o) b W := ⟨h.1.alloc o, h.2⟩
theorem MapIs.drew (h : MapIs P k e kV ok w b W) : MapIs P k e kV ok w.drew b W := h
theorem MapIs.block (h : MapIs P k e kV ok w b W) (hb : w'.heap[b]? = w.heap[b]?) : MapIs P k e kV ok w' b W := by
  refine ⟨?_, h.2⟩
  obtain ⟨es, clock, h1, h2⟩ := h.1
  exact ⟨es, clock, hb.trans h1, h2⟩
theorem MapIs.ch {S : Nat → Prop} (h : MapIs P k e kV ok w b W) (hc : Ch S w w') (hS : ¬ S b) : MapIs P k e kV ok w' b W := h.block (hc.block b h.lt hS)
theorem MapIs.below {B : Nat} (h : MapIs P k e kV ok w b W) (hb : Below B w w') (hB : b < B) : MapIs P k e kV ok w' b W := h.block (hb.block b hB)
theorem MapIs.made (w : World) : MapIs P k e kV ok (w.alloc (.map #[] 0)) w.heap.size ([] : List (α × Int)) :=
  ⟨World.ownsMap_made w P k _, by simp, by simp, by simp⟩
theorem pE_mem (W : List (α × Int)) (x : Lit × DataW Unit) : x ∈ (W.map (pE P k kV)) ↔ ∃ p ∈ W, pE P k kV p = x := List.mem_map
theorem MapIs.rising (K : KeyT P k kV ok) (h : MapIs P k e kV ok w b W) : DataW.rising ((W.map (pE P k kV)).foldr DataW.insert []) = true := by
  obtain ⟨es, clock, hb, F, hs, hD⟩ := h.1
  have := Maps.fit_rising K.law F
  injection hD with hD
  rw [hD]
  exact this
theorem MapIs.apart (K : KeyT P k kV ok) (h : MapIs P k e kV ok w b W) : (W.map (pE P k kV)).Pairwise (fun p q => p.1 ≠ q.1) := by
  rw [List.pairwise_map]
  have h2 := h.2.1
  rw [List.nodup_iff_pairwise_ne, List.pairwise_map] at h2
  refine h2.imp_of_mem ?_
  intro p q hp hq hne he
  exact hne (K.klit_inj (h.2.2.1 p hp) (h.2.2.1 q hq) he)
theorem MapIs.keys (K : KeyT P k kV ok) (h : MapIs P k e kV ok w b W) : Maps.Keys (Maps.KeysOf P k) (W.map (pE P k kV)) := by
  intro x hx
  obtain ⟨p, hp, rfl⟩ := List.mem_map.1 hx
  exact ⟨kV p.1, K.klit (h.2.2.1 p hp)⟩
/-- The datum at a key. -/
theorem MapIs.at_ [DecidableEq α] (K : KeyT P k kV ok) (h : MapIs P k e kV ok w b W) {a : α} (ha : ok a) :
    (DataW.map ((W.map (pE P k kV)).foldr DataW.insert [])).atKey (Ytailbppddnegoaa.klit P k kV a) (.lit (.int .i64 0)) = .lit (.int .i64 (mget W a)) := by
  have hat := WideShapes.atKey_sorted (W.map (pE P k kV)) (h.rising K) (Ytailbppddnegoaa.klit P k kV a) (K.law.key (K.klit ha))
  by_cases hm : a ∈ W.map (·.1)
  · obtain ⟨p, hp, rfl⟩ := List.mem_map.1 hm
    rw [hat.2 (pE P k kV p) (List.mem_map.2 ⟨p, hp, rfl⟩) rfl, mget_mem h.2.1 hp]
    rfl
  · rw [hat.1 (fun x hx hxe => ?_), mget_none hm]
    obtain ⟨p, hp, rfl⟩ := List.mem_map.1 hx
    exact hm (List.mem_map.2 ⟨p, hp, K.klit_inj (h.2.2.1 p hp) ha hxe⟩)
theorem MapIs.has_ [DecidableEq α] (K : KeyT P k kV ok) (h : MapIs P k e kV ok w b W) {a : α} (ha : ok a) :
    Maps.has (DataW.map ((W.map (pE P k kV)).foldr DataW.insert [])) (Ytailbppddnegoaa.klit P k kV a) = mhas W a := by
  rw [Bool.eq_iff_iff, mhas_iff, Maps.has_eq, List.any_eq_true]
  constructor
  · rintro ⟨x, hx, hs⟩
    obtain ⟨p, hp, rfl⟩ := List.mem_map.1 (mem_sorted.1 hx)
    have := K.klit_inj (h.2.2.1 p hp) ha (WideAt.sameKey_eq hs)
    exact List.mem_map.2 ⟨p, hp, this⟩
  · intro hm
    obtain ⟨p, hp, rfl⟩ := List.mem_map.1 hm
    exact ⟨pE P k kV p, mem_sorted.2 (List.mem_map.2 ⟨p, hp, rfl⟩), WideAt.sameKey_self (K.law.key (K.klit ha))⟩
/-- 'm[k]'. -/
theorem MapIs.lookup [DecidableEq α] (K : KeyT P k kV ok) (h : MapIs P k e kV ok w b W) {t : TypeId} (ht : P.underlying t = some (.map k e)) (he : P.underlying e = some (.int .i64)) (hz : (zeroValue e).run P w = .ok (.int .i64 0) w) {a : α} (ha : ok a) :
    (Instr.lookup t (.map (some b)) (kV a) false).run P w = .ok (.int .i64 (mget W a)) w := by
  obtain ⟨c, hrun, hat, _⟩ := h.1.lookup_int K.law ht he hz (K.klit ha)
  rw [h.at_ K ha] at hat
  injection hat with hat
  injection hat with _ hat
  rw [hrun, hat]
/-- 'v, ok := m[k]'. -/
theorem MapIs.lookup_ok [DecidableEq α] (K : KeyT P k kV ok) (h : MapIs P k e kV ok w b W) {t : TypeId} (ht : P.underlying t = some (.map k e)) (he : P.underlying e = some (.int .i64)) (hz : (zeroValue e).run P w = .ok (.int .i64 0) w) {a : α} (ha : ok a) :
    (Instr.lookup t (.map (some b)) (kV a) true).run P w = .ok (.tuple #[.int .i64 (mget W a), .bool (mhas W a)]) w := by
  obtain ⟨v, ps, hrun, hv⟩ := h.1.look_ok K.law ht hz (plainElem_int (q := .i64) he (a := 0) (by decide)) (K.klit ha)
  obtain ⟨c, rfl, hc, hwc⟩ := plainElem_int_inv he hv
  simp only [Prod.mk.injEq] at hc
  have hc := hc.1
  rw [h.at_ K ha] at hc
  injection hc with hc
  injection hc with _ hc
  rw [hrun, h.has_ K ha, hc]
theorem ownsMap_tight {R : Value → Option (DataW Unit × List MemPlace)} {n : Nat} {l : List (Lit × DataW Unit)} (h : w.ownsMap P k R b n (.map l)) : w.ownsMap P k R b l.length (.map l) := by
  obtain ⟨es, clock, hb, F, hs, hD⟩ := h
  refine ⟨es, clock, hb, F, ?_, hD⟩
  injection hD with hD
  rw [hD, length_sorted]
  simp
/-- The same pairs in another order. -/
theorem MapIs.perm (K : KeyT P k kV ok) (h : MapIs P k e kV ok w b W) {W' : List (α × Int)} (hp : W.Perm W') : MapIs P k e kV ok w b W' := by
  have e1 : (W'.map (pE P k kV)).foldr DataW.insert [] = (W.map (pE P k kV)).foldr DataW.insert [] := by
    have hpm := hp.map (pE P k kV)
    have k1 := h.keys K
    have k2 : Maps.Keys (Maps.KeysOf P k) (W'.map (pE P k kV)) := Maps.keys_perm hpm k1
    have a2 : (W'.map (pE P k kV)).Pairwise (fun p q => p.1 ≠ q.1) := (hpm.pairwise_iff (fun {a b} (h : a.1 ≠ b.1) => h.symm)).1 (h.apart K)
    exact ChangeMaps.eq_of_perm_sorted (((sorted_perm _).trans hpm.symm).trans (sorted_perm _).symm) (Maps.sorted_sorted K.law.one _ k2 a2) (Maps.sorted_sorted K.law.one _ k1 (h.apart K))
  refine ⟨?_, (hp.map _).nodup_iff.1 h.2.1, fun p hp' => h.2.2.1 p (hp.mem_iff.2 hp'), fun p hp' => h.2.2.2 p (hp.mem_iff.2 hp')⟩
  rw [e1, ← hp.length_eq]
  exact h.1
theorem filter_notKey [DecidableEq α] (K : KeyT P k kV ok) {W : List (α × Int)} (hok : ∀ p ∈ W, ok p.1) {a : α} (ha : ok a) : (W.map (pE P k kV)).filter (notKey (Ytailbppddnegoaa.klit P k kV a)) = (W.filter fun p => decide (p.1 ≠ a)).map (pE P k kV) := by
  rw [List.filter_map]
  congr 1
  refine List.filter_congr fun p hp => ?_
  rw [Bool.eq_iff_iff, Function.comp, Maps.notKey_iff (K.law.key (K.klit ha)), decide_eq_true_eq]
  constructor
  · intro h e
    exact h (by rw [← e]; rfl)
  · intro h e
    exact h (K.klit_inj (hok p hp) ha e)
/-- 'm[k] = v': the pairs behind it, in whatever order. -/
theorem MapIs.update [DecidableEq α] (K : KeyT P k kV ok) (h : MapIs P k e kV ok w b W) {t : TypeId} (ht : P.underlying t = some (.map k e)) (he : P.underlying e = some (.int .i64)) (hn : W.length < maxLen) {a : α} (ha : ok a) {n : Int} (hw : (Lit.int .i64 n).wf = true)
    {W' : List (α × Int)} (hp : W'.Perm ((a, n) :: W.filter fun p => decide (p.1 ≠ a))) :
    ∃ w', (Instr.mapUpdate t (.map (some b)) (kV a) (.int .i64 n)).run P w = .ok () w' ∧ MapIs P k e kV ok w' b W' ∧ w.grownBy w' (some b) := by
  obtain ⟨w', hrun, ho, hg⟩ := h.1.update K.law ht hn (K.klit ha) (plainElem_int he hw)
  have hpm : (W'.map (pE P k kV)).Perm ((Ytailbppddnegoaa.klit P k kV a, DataW.lit (.int .i64 n)) :: (W.map (pE P k kV)).filter (notKey (Ytailbppddnegoaa.klit P k kV a))) := by
    rw [filter_notKey K h.2.2.1 ha]
    exact hp.map (pE P k kV)
  have e1 := Maps.sorted_put K.law.one (d := DataW.lit (.int .i64 n)) ⟨_, K.klit ha⟩ (h.keys K) (h.apart K) hpm
  rw [DataW.put_eq, ← e1] at ho
  have ho' := ownsMap_tight ho
  rw [length_sorted, List.length_map] at ho'
  have hnd : (W'.map (·.1)).Nodup := by
    rw [(hp.map (·.1)).nodup_iff]
    simp only [List.map_cons, List.nodup_cons]
    refine ⟨?_, ?_⟩
    · intro hm
      obtain ⟨p, hp', he'⟩ := List.mem_map.1 hm
      have := (List.mem_filter.1 hp').2
      simp at this
      exact this he'
    · exact (List.filter_sublist.map _).nodup h.2.1
  refine ⟨w', hrun, ⟨ho', hnd, ?_, ?_⟩, hg⟩
  · intro p hp'
    rcases List.mem_cons.1 (hp.mem_iff.1 hp') with rfl | hp'
    · exact ha
    · exact h.2.2.1 p (List.mem_filter.1 hp').1
  · intro p hp'
    rcases List.mem_cons.1 (hp.mem_iff.1 hp') with rfl | hp'
    · exact hw
    · exact h.2.2.2 p (List.mem_filter.1 hp').1
/-- 'delete(m, k)'. -/
theorem MapIs.delete [DecidableEq α] (K : KeyT P k kV ok) (h : MapIs P k e kV ok w b W) {t ty : TypeId} (ht : P.underlying t = some (.map k e)) {a : α} (ha : ok a)
    {W' : List (α × Int)} (hp : W'.Perm (W.filter fun p => decide (p.1 ≠ a))) :
    ∃ w', (Builtin.delete_ #[t, k] ty #[.map (some b), kV a]).run P w = .ok (.tuple #[]) w' ∧ MapIs P k e kV ok w' b W' ∧ w.grownBy w' (some b) := by
  obtain ⟨w', hrun, ho, hg⟩ := h.1.drop K.law ht (K.klit ha) ty
  have hpm : (W'.map (pE P k kV)).Perm ((W.map (pE P k kV)).filter (notKey (Ytailbppddnegoaa.klit P k kV a))) := by
    rw [filter_notKey K h.2.2.1 ha]
    exact hp.map (pE P k kV)
  have e1 := Maps.sorted_del K.law.one (h.keys K) (h.apart K) hpm
  rw [DataW.del_eq, ← e1] at ho
  have ho' := ownsMap_tight ho
  rw [length_sorted, List.length_map] at ho'
  have hnd : (W'.map (·.1)).Nodup := by
    rw [(hp.map (·.1)).nodup_iff]
    exact (List.filter_sublist.map _).nodup h.2.1
  exact ⟨w', hrun, ⟨ho', hnd, fun p hp' => h.2.2.1 p (List.mem_filter.1 (hp.mem_iff.1 hp')).1, fun p hp' => h.2.2.2 p (List.mem_filter.1 (hp.mem_iff.1 hp')).1⟩, hg.grown⟩

/-! A range over such a map: which keys have come. -/
/-- No key twice; a key has come just where the map has it and it is no longer to come. -/
def Come (P : Program) (k : TypeId) (kV : α → Value) (ok : α → Prop) (W : List (α × Int)) (left : Lit → Bool) (ss : List α) : Prop :=
  ss.Nodup ∧ (∀ x ∈ ss, ok x) ∧ ∀ x, ok x → (x ∈ ss ↔ (x ∈ W.map (·.1) ∧ left (Ytailbppddnegoaa.klit P k kV x) = false))
theorem Come.start [DecidableEq α] (K : KeyT P k kV ok) (h : MapIs P k e kV ok w b W) : Come P k kV ok W (Maps.has (DataW.map ((W.map (pE P k kV)).foldr DataW.insert []))) [] := by
  refine ⟨List.nodup_nil, by simp, fun x hx => ?_⟩
  rw [h.has_ K hx, ← mhas_iff]
  cases mhas W x <;> simp
theorem Come.step [DecidableEq α] (K : KeyT P k kV ok) (h : MapIs P k e kV ok w b W) {left : Lit → Bool} {ss : List α} (hC : Come P k kV ok W left ss) {x : α} (hx : ok x) {y : DataW Unit} (hlk : left (Ytailbppddnegoaa.klit P k kV x) = true)
    (hat : ∀ zd, (DataW.map ((W.map (pE P k kV)).foldr DataW.insert [])).atKey (Ytailbppddnegoaa.klit P k kV x) zd = y) : Come P k kV ok W (fun z => left z && !z.sameKey (Ytailbppddnegoaa.klit P k kV x)) (ss ++ [x]) := by
  have hhas := Maps.has_true_of_atKey hat
  rw [h.has_ K hx] at hhas
  have hnew : x ∉ ss := fun hm => by have := ((hC.2.2 x hx).1 hm).2; rw [hlk] at this; cases this
  refine ⟨List.nodup_append.2 ⟨hC.1, by simp, fun a ha b hb => by simp at hb; subst hb; exact fun e => hnew (e ▸ ha)⟩, ?_, fun y hy => ?_⟩
  · intro y hy
    rcases List.mem_append.1 hy with hy | hy
    · exact hC.2.1 y hy
    · simp at hy; subst hy; exact hx
  · by_cases hyx : y = x
    · subst hyx
      have := WideAt.sameKey_self (K.law.key (K.klit hx))
      simp [(mhas_iff W y).1 hhas, this]
    · have hs : (Ytailbppddnegoaa.klit P k kV y).sameKey (Ytailbppddnegoaa.klit P k kV x) = false := by
        cases hs : (Ytailbppddnegoaa.klit P k kV y).sameKey (Ytailbppddnegoaa.klit P k kV x)
        · rfl
        · exact absurd (K.klit_inj hy hx (WideAt.sameKey_eq hs)) hyx
      simp only [List.mem_append, List.mem_singleton, hyx, or_false, hs, Bool.not_false, Bool.and_true]
      exact hC.2.2 y hy
theorem Come.perm (h : MapIs P k e kV ok w b W) {left : Lit → Bool} {ss : List α} (hC : Come P k kV ok W left ss) (hl : ∀ kl, left kl = false) : ss.Perm (W.map (·.1)) := by
  refine (List.perm_ext_iff_of_nodup hC.1 h.2.1).2 fun x => ?_
  constructor
  · intro hx
    exact ((hC.2.2 x (hC.2.1 x hx)).1 hx).1
  · intro hx
    obtain ⟨p, hp, rfl⟩ := List.mem_map.1 hx
    exact (hC.2.2 p.1 (h.2.2.1 p hp)).2 ⟨hx, hl _⟩
end
end Go.Proofs.Ytailbppddnegoaa
