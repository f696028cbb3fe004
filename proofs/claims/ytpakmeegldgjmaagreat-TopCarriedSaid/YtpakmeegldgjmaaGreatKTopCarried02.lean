/- TopCarried: part 2 of what the proof rests on: contracts of functions, and plain laws. -/
import Derived.WalkKit
import Derived.ProofKit
import Derived.OpenShut
import Derived.Handy
import Derived.Outline
import Derived.Lib.Hide
import Derived.Deep.Draws
import Derived.Laws.OwnMore
import Derived.Laws.AppendOwn
import Derived.Laws.AppendOwnNone
import Derived.Laws.BitsAllLaws
import Derived.Laws.Bits64b
import Derived.Lib.AppendZeros
import Derived.Lib.AppendZerosOnto
import Derived.Laws.CopyRow
import Derived.Lib.AppendStr
import Derived.Test.YtpakmeegldgjmaaGreatRows
import Derived.Lib.Zigzag
import Derived.Deep.QuietTactic
import Derived.BigQuiet
import Derived.Deep.LoopGhost
import Derived.BigRegion
import Derived.RegionTactic
import Derived.Deep.WholeRow
import Derived.Deep.Slices
import Derived.Lib.Varint
import Derived.WalkSpells
import Derived.Laws.BytesString
import Derived.Laws.Concat
import Derived.IntWalk
import Derived.Test.YtpakmeegldgjmaaGreatProg
import Derived.Deep.RegionHeld3
import Derived.StillTailTactics
import Derived.Laws.StructEq
import Derived.Lib.SmallJoins
import Derived.Deep.Strs
import Derived.Laws.IdiomStrings
import Derived.Lib.SlBytesConst
import Derived.Deep.RegionWith
import Derived.Maps.Own
import Derived.Maps.OwnSet
import Derived.Maps.Range
import Derived.DeepKeys4
import Derived.ChangeKeysEq
import Derived.DeepKeys2
import Derived.RangeFuncNested
import Derived.RangeFuncBound
import Derived.RangeFuncCalls
import Derived.RangeFuncLeaves
import Derived.Sort.MapsRangeIn
import Derived.OwnWalkIn
import Derived.TacticsInMore
import Derived.RegionIn
import Derived.LoopNIn
import Derived.LoopIn
import Derived.Maps.AppendAt
import Derived.Sort.Grow
import Derived.Shelf.GgSortFunc.InsertionK
import Derived.Shelf.SlSortCmp.NoneTotal
import Derived.WideKeyEntry
import Derived.Deep.CutBlock
import Derived.Deep.CutRange
import Derived.Deep.RegionLaw
import Derived.Deep.DeepCutAuto
import Derived.Deep.DrawnRows
import Derived.WalkLawsBesides
import Derived.Test.YtpakmeegldgjmaaGreatKTopCarried01
/- Merged: M1, QM, M2. -/
/- Maps keyed by structs of whole numbers, with whole numbers as elements: a map block read as a list of pairs (in whatever order), and what look-ups, stores and deletes do to it. -/
namespace Go.Proofs.YtpakmeegldgjmaaGreat
open Go.RowKit
open Go.ChangeMaps (notKey putKey delKey)
open Go.WideShapes (sorted_perm)
set_option linter.unusedVariables false
set_option maxRecDepth 100000

/-! Lists of pairs. -/
section
variable {α : Type} [DecidableEq α]
/-- The number at a key; 0 where there is none. -/
def mget : List (α × Int) → α → Int
  | [], _ => 0
  | p :: r, a => if p.1 = a then p.2 else mget r a
def mhas (W : List (α × Int)) (a : α) : Bool := W.any fun p => decide (p.1 = a)
theorem mhas_iff (W : List (α × Int)) (a : α) : mhas W a = true ↔ a ∈ W.map (·.1) := by
  unfold mhas
  rw [List.any_eq_true]
  simp only [List.mem_map, decide_eq_true_eq]
theorem mget_none {W : List (α × Int)} {a : α} (h : a ∉ W.map (·.1)) : mget W a = 0 := by
  induction W with
  | nil => rfl
  | cons p r ih =>
    simp only [List.map_cons, List.mem_cons, not_or] at h
    unfold mget
    rw [if_neg (fun e => h.1 e.symm)]
    exact ih h.2
theorem mget_mem {W : List (α × Int)} (hn : (W.map (·.1)).Nodup) {p : α × Int} (h : p ∈ W) : mget W p.1 = p.2 := by
  induction W with
  | nil => cases h
  | cons q r ih =>
    simp only [List.map_cons, List.nodup_cons] at hn
    unfold mget
    rcases List.mem_cons.1 h with rfl | h'
    · rw [if_pos rfl]
    · rw [if_neg (fun e => hn.1 (by rw [e]; exact List.mem_map.2 ⟨p, h', rfl⟩))]
      exact ih hn.2 h'
end

/-- What is asked of a key's type: how keys are written, which may be. -/
structure KeyT {α : Type} (P : Program) (k : TypeId) (kV : α → Value) (ok : α → Prop) : Prop where
  law : Maps.Keyed P k
  of : ∀ a, ok a → ∃ l, keyOf P k (kV a) = some l
  inv : ∀ v l, keyOf P k v = some l → ∃ a, ok a ∧ v = kV a
  inj : ∀ a b, kV a = kV b → a = b

section
variable {α : Type} {P : Program} {k e : TypeId} {kV : α → Value} {ok : α → Prop} {w w' : World} {b : Nat} {W : List (α × Int)}
/-- What a key reads as. -/
def klit (P : Program) (k : TypeId) (kV : α → Value) (a : α) : Lit := (keyOf P k (kV a)).getD (.bool false)
theorem KeyT.klit (K : KeyT P k kV ok) {a : α} (h : ok a) : keyOf P k (kV a) = some (klit P k kV a) := by
  obtain ⟨l, hl⟩ := K.of a h
  simp [YtpakmeegldgjmaaGreat.klit, hl]
theorem KeyT.klit_inj (K : KeyT P k kV ok) {a c : α} (ha : ok a) (hc : ok c) (h : YtpakmeegldgjmaaGreat.klit P k kV a = YtpakmeegldgjmaaGreat.klit P k kV c) : a = c :=
  K.inj _ _ (K.law.inj (K.klit ha) (h ▸ K.klit hc))
/-- A pair as the reader has it. -/
def pE (P : Program) (k : TypeId) (kV : α → Value) (p : α × Int) : Lit × DataW Unit := (YtpakmeegldgjmaaGreat.klit P k kV p.1, .lit (.int .i64 p.2))
/-- Block b is a map whose entries are the pairs of W. -/
def MapIs (P : Program) (k e : TypeId) (kV : α → Value) (ok : α → Prop) (w : World) (b : Nat) (W : List (α × Int)) : Prop :=
  w.ownsMap P k (plainElem (H := Unit) P e) b W.length (.map ((W.map (pE P k kV)).foldr DataW.insert [])) ∧ (W.map (·.1)).Nodup ∧ (∀ p ∈ W, ok p.1) ∧ ∀ p ∈ W, (Lit.int .i64 p.2).wf = true
theorem MapIs.kept {row : Option Nat} (h : MapIs P k e kV ok w b W) (hg : w.grownBy w' row) (hne : some b ≠ row) : MapIs P k e kV ok w' b W := ⟨h.1.kept hg hne, h.2⟩
theorem MapIs.lt (h : MapIs P k e kV ok w b W) : b < w.heap.size := h.1.lt
theorem MapIs.alloc (h : MapIs P k e kV ok w b W) (o : Obj) : MapIs P k e kV ok (w.alloc o) b W := ⟨h.1.alloc o, h.2⟩
theorem MapIs.drew (h : MapIs P k e kV ok w b W) : MapIs P k e kV ok w.drew b W := h
theorem MapIs.block (h : MapIs P k e kV ok w b W) (hb : w'.heap[b]? = w.heap[b]?) : MapIs P k e kV ok w' b W := by
  refine ⟨?_, h.2⟩
  obtain ⟨es, clock, h1, h2⟩ := h.1
  exact ⟨es, clock, hb.trans h1, h2⟩
theorem MapIs.ch {S : Nat → Prop} (h : MapIs P k e kV ok w b W) (hc : Ch S w w') (hS : ¬ S b) : MapIs P k e kV ok w' b W := h.block (hc.block b h.lt hS)
theorem MapIs.below {B : Nat} (h : MapIs P k e kV ok w b W) (hb : Below B w w') (hB : b < B) : MapIs P k e kV ok w' b W := h.block (hb.block b hB)
theorem MapIs.made (w : World) : MapIs P k e kV ok (w.alloc (.map #[] 0)) w.heap.size ([] : List (α × Int)) :=
  ⟨World.ownsMap_made w P k _, by simp, by simp, by simp⟩
theorem MapIs.rising (K : KeyT P k kV ok) (h : MapIs P k e kV ok w b W) : DataW.rising ((W.map (pE P k kV)).foldr DataW.insert []) = true := by
  obtain ⟨es, clock, hb, F, hs, hD⟩ := h.1
  have := Maps.fit_rising K.law F
  injection hD with hD
  rw [hD]
  exact this
theorem MapIs.apart (K : KeyT P k kV ok) (h : MapIs P k e kV ok w b W) : (W.map (pE P k kV)).Pairwise (fun p q => p.1 ≠ q.1) := by
  rw [List.pairwise_map]
  have h2 := h.2.1
  rw [List.nodup_iff_pairwise_ne, List.pairwise_map] at h2
  refine h2.imp_of_mem ?_
  intro p q hp hq hne he
  exact hne (K.klit_inj (h.2.2.1 p hp) (h.2.2.1 q hq) he)
theorem MapIs.keys (K : KeyT P k kV ok) (h : MapIs P k e kV ok w b W) : Maps.Keys (Maps.KeysOf P k) (W.map (pE P k kV)) := by
  intro x hx
  obtain ⟨p, hp, rfl⟩ := List.mem_map.1 hx
  exact ⟨kV p.1, K.klit (h.2.2.1 p hp)⟩
/-- The datum at a key. -/
theorem MapIs.at_ [DecidableEq α] (K : KeyT P k kV ok) (h : MapIs P k e kV ok w b W) {a : α} (ha : ok a) :
    (DataW.map ((W.map (pE P k kV)).foldr DataW.insert [])).atKey (YtpakmeegldgjmaaGreat.klit P k kV a) (.lit (.int .i64 0)) = .lit (.int .i64 (mget W a)) := by
  have hat := WideShapes.atKey_sorted (W.map (pE P k kV)) (h.rising K) (YtpakmeegldgjmaaGreat.klit P k kV a) (K.law.key (K.klit ha))
  by_cases hm : a ∈ W.map (·.1)
  · obtain ⟨p, hp, rfl⟩ := List.mem_map.1 hm
    rw [hat.2 (pE P k kV p) (List.mem_map.2 ⟨p, hp, rfl⟩) rfl, mget_mem h.2.1 hp]
    rfl
  · rw [hat.1 (fun x hx hxe => ?_), mget_none hm]
    obtain ⟨p, hp, rfl⟩ := List.mem_map.1 hx
    exact hm (List.mem_map.2 ⟨p, hp, K.klit_inj (h.2.2.1 p hp) ha hxe⟩)
theorem MapIs.has_ [DecidableEq α] (K : KeyT P k kV ok) (h : MapIs P k e kV ok w b W) {a : α} (ha : ok a) :
    Maps.has (DataW.map ((W.map (pE P k kV)).foldr DataW.insert [])) (YtpakmeegldgjmaaGreat.klit P k kV a) = mhas W a := by
  rw [Bool.eq_iff_iff, mhas_iff, Maps.has_eq, List.any_eq_true]
  constructor
  · rintro ⟨x, hx, hs⟩
    obtain ⟨p, hp, rfl⟩ := List.mem_map.1 (mem_sorted.1 hx)
    have := K.klit_inj (h.2.2.1 p hp) ha (WideAt.sameKey_eq hs)
    exact List.mem_map.2 ⟨p, hp, this⟩
  · intro hm
    obtain ⟨p, hp, rfl⟩ := List.mem_map.1 hm
    exact ⟨pE P k kV p, mem_sorted.2 (List.mem_map.2 ⟨p, hp, rfl⟩), WideAt.sameKey_self (K.law.key (K.klit ha))⟩
/-- 'm[k]'. -/
theorem MapIs.lookup [DecidableEq α] (K : KeyT P k kV ok) (h : MapIs P k e kV ok w b W) {t : TypeId} (ht : P.underlying t = some (.map k e)) (he : P.underlying e = some (.int .i64)) (hz : (zeroValue e).run P w = .ok (.int .i64 0) w) {a : α} (ha : ok a) :
    (Instr.lookup t (.map (some b)) (kV a) false).run P w = .ok (.int .i64 (mget W a)) w := by
  obtain ⟨c, hrun, hat, _⟩ := h.1.lookup_int K.law ht he hz (K.klit ha)
  rw [h.at_ K ha] at hat
  injection hat with hat
  injection hat with _ hat
  rw [hrun, hat]
/-- 'v, ok := m[k]'. -/
theorem MapIs.lookup_ok [DecidableEq α] (K : KeyT P k kV ok) (h : MapIs P k e kV ok w b W) {t : TypeId} (ht : P.underlying t = some (.map k e)) (he : P.underlying e = some (.int .i64)) (hz : (zeroValue e).run P w = .ok (.int .i64 0) w) {a : α} (ha : ok a) :
    (Instr.lookup t (.map (some b)) (kV a) true).run P w = .ok (.tuple #[.int .i64 (mget W a), .bool (mhas W a)]) w := by
  obtain ⟨v, ps, hrun, hv⟩ := h.1.look_ok K.law ht hz (plainElem_int (q := .i64) he (a := 0) (by decide)) (K.klit ha)
  obtain ⟨c, rfl, hc, hwc⟩ := plainElem_int_inv he hv
  simp only [Prod.mk.injEq] at hc
  have hc := hc.1
  rw [h.at_ K ha] at hc
  injection hc with hc
  injection hc with _ hc
  rw [hrun, h.has_ K ha, hc]
theorem ownsMap_tight {R : Value → Option (DataW Unit × List MemPlace)} {n : Nat} {l : List (Lit × DataW Unit)} (h : w.ownsMap P k R b n (.map l)) : w.ownsMap P k R b l.length (.map l) := by
  obtain ⟨es, clock, hb, F, hs, hD⟩ := h
  refine ⟨es, clock, hb, F, ?_, hD⟩
  injection hD with hD
  rw [hD, length_sorted]
  simp
/-- The same pairs in another order. -/
theorem MapIs.perm (K : KeyT P k kV ok) (h : MapIs P k e kV ok w b W) {W' : List (α × Int)} (hp : W.Perm W') : MapIs P k e kV ok w b W' := by
  have e1 : (W'.map (pE P k kV)).foldr DataW.insert [] = (W.map (pE P k kV)).foldr DataW.insert [] := by
    have hpm := hp.map (pE P k kV)
    have k1 := h.keys K
    have k2 : Maps.Keys (Maps.KeysOf P k) (W'.map (pE P k kV)) := Maps.keys_perm hpm k1
    have a2 : (W'.map (pE P k kV)).Pairwise (fun p q => p.1 ≠ q.1) := (hpm.pairwise_iff (fun {a b} (h : a.1 ≠ b.1) => h.symm)).1 (h.apart K)
    exact ChangeMaps.eq_of_perm_sorted (((sorted_perm _).trans hpm.symm).trans (sorted_perm _).symm) (Maps.sorted_sorted K.law.one _ k2 a2) (Maps.sorted_sorted K.law.one _ k1 (h.apart K))
  refine ⟨?_, (hp.map _).nodup_iff.1 h.2.1, fun p hp' => h.2.2.1 p (hp.mem_iff.2 hp'), fun p hp' => h.2.2.2 p (hp.mem_iff.2 hp')⟩
  rw [e1, ← hp.length_eq]
  exact h.1
theorem filter_notKey [DecidableEq α] (K : KeyT P k kV ok) {W : List (α × Int)} (hok : ∀ p ∈ W, ok p.1) {a : α} (ha : ok a) : (W.map (pE P k kV)).filter (notKey (YtpakmeegldgjmaaGreat.klit P k kV a)) = (W.filter fun p => decide (p.1 ≠ a)).map (pE P k kV) := by
  rw [List.filter_map]
  congr 1
  refine List.filter_congr fun p hp => ?_
  rw [Bool.eq_iff_iff, Function.comp, Maps.notKey_iff (K.law.key (K.klit ha)), decide_eq_true_eq]
  constructor
  · intro h e
    exact h (by rw [← e]; rfl)
  · intro h e
    exact h (K.klit_inj (hok p hp) ha e)
/-- 'm[k] = v': the pairs behind it, in whatever order. -/
theorem MapIs.update [DecidableEq α] (K : KeyT P k kV ok) (h : MapIs P k e kV ok w b W) {t : TypeId} (ht : P.underlying t = some (.map k e)) (he : P.underlying e = some (.int .i64)) (hn : W.length < maxLen) {a : α} (ha : ok a) {n : Int} (hw : (Lit.int .i64 n).wf = true)
    {W' : List (α × Int)} (hp : W'.Perm ((a, n) :: W.filter fun p => decide (p.1 ≠ a))) :
    ∃ w', (Instr.mapUpdate t (.map (some b)) (kV a) (.int .i64 n)).run P w = .ok () w' ∧ MapIs P k e kV ok w' b W' ∧ w.grownBy w' (some b) := by
  obtain ⟨w', hrun, ho, hg⟩ := h.1.update K.law ht hn (K.klit ha) (plainElem_int he hw)
  have hpm : (W'.map (pE P k kV)).Perm ((YtpakmeegldgjmaaGreat.klit P k kV a, DataW.lit (.int .i64 n)) :: (W.map (pE P k kV)).filter (notKey (YtpakmeegldgjmaaGreat.klit P k kV a))) := by
    rw [filter_notKey K h.2.2.1 ha]
    exact hp.map (pE P k kV)
  have e1 := Maps.sorted_put K.law.one (d := DataW.lit (.int .i64 n)) ⟨_, K.klit ha⟩ (h.keys K) (h.apart K) hpm
  rw [DataW.put_eq, ← e1] at ho
  have ho' := ownsMap_tight ho
  rw [length_sorted, List.length_map] at ho'
  have hnd : (W'.map (·.1)).Nodup := by
    rw [(hp.map (·.1)).nodup_iff]
    simp only [List.map_cons, List.nodup_cons]
    refine ⟨?_, ?_⟩
    · intro hm
      obtain ⟨p, hp', he'⟩ := List.mem_map.1 hm
      have := (List.mem_filter.1 hp').2
      simp at this
      exact this he'
    · exact (List.filter_sublist.map _).nodup h.2.1
  refine ⟨w', hrun, ⟨ho', hnd, ?_, ?_⟩, hg⟩
  · intro p hp'
    rcases List.mem_cons.1 (hp.mem_iff.1 hp') with rfl | hp'
    · exact ha
    · exact h.2.2.1 p (List.mem_filter.1 hp').1
  · intro p hp'
    rcases List.mem_cons.1 (hp.mem_iff.1 hp') with rfl | hp'
    · exact hw
    · exact h.2.2.2 p (List.mem_filter.1 hp').1
/-- 'delete(m, k)'. -/
theorem MapIs.delete [DecidableEq α] (K : KeyT P k kV ok) (h : MapIs P k e kV ok w b W) {t ty : TypeId} (ht : P.underlying t = some (.map k e)) {a : α} (ha : ok a)
    {W' : List (α × Int)} (hp : W'.Perm (W.filter fun p => decide (p.1 ≠ a))) :
    ∃ w', (Builtin.delete_ #[t, k] ty #[.map (some b), kV a]).run P w = .ok (.tuple #[]) w' ∧ MapIs P k e kV ok w' b W' ∧ w.grownBy w' (some b) := by
  obtain ⟨w', hrun, ho, hg⟩ := h.1.drop K.law ht (K.klit ha) ty
  have hpm : (W'.map (pE P k kV)).Perm ((W.map (pE P k kV)).filter (notKey (YtpakmeegldgjmaaGreat.klit P k kV a))) := by
    rw [filter_notKey K h.2.2.1 ha]
    exact hp.map (pE P k kV)
  have e1 := Maps.sorted_del K.law.one (h.keys K) (h.apart K) hpm
  rw [DataW.del_eq, ← e1] at ho
  have ho' := ownsMap_tight ho
  rw [length_sorted, List.length_map] at ho'
  have hnd : (W'.map (·.1)).Nodup := by
    rw [(hp.map (·.1)).nodup_iff]
    exact (List.filter_sublist.map _).nodup h.2.1
  exact ⟨w', hrun, ⟨ho', hnd, fun p hp' => h.2.2.1 p (List.mem_filter.1 (hp.mem_iff.1 hp')).1, fun p hp' => h.2.2.2 p (List.mem_filter.1 (hp.mem_iff.1 hp')).1⟩, hg.grown⟩

/-! A range over such a map: which keys have come. -/
/-- No key twice; a key has come just where the map has it and it is no longer to come. -/
def Come (P : Program) (k : TypeId) (kV : α → Value) (ok : α → Prop) (W : List (α × Int)) (left : Lit → Bool) (ss : List α) : Prop :=
  ss.Nodup ∧ (∀ x ∈ ss, ok x) ∧ ∀ x, ok x → (x ∈ ss ↔ (x ∈ W.map (·.1) ∧ left (YtpakmeegldgjmaaGreat.klit P k kV x) = false))
theorem Come.start [DecidableEq α] (K : KeyT P k kV ok) (h : MapIs P k e kV ok w b W) : Come P k kV ok W (Maps.has (DataW.map ((W.map (pE P k kV)).foldr DataW.insert []))) [] := by
  refine ⟨List.nodup_nil, by simp, fun x hx => ?_⟩
  rw [h.has_ K hx, ← mhas_iff]
  cases mhas W x <;> simp
theorem Come.step [DecidableEq α] (K : KeyT P k kV ok) (h : MapIs P k e kV ok w b W) {left : Lit → Bool} {ss : List α} (hC : Come P k kV ok W left ss) {x : α} (hx : ok x) {y : DataW Unit} (hlk : left (YtpakmeegldgjmaaGreat.klit P k kV x) = true)
    (hat : ∀ zd, (DataW.map ((W.map (pE P k kV)).foldr DataW.insert [])).atKey (YtpakmeegldgjmaaGreat.klit P k kV x) zd = y) : Come P k kV ok W (fun z => left z && !z.sameKey (YtpakmeegldgjmaaGreat.klit P k kV x)) (ss ++ [x]) := by
  have hhas := Maps.has_true_of_atKey hat
  rw [h.has_ K hx] at hhas
  have hnew : x ∉ ss := fun hm => by have := ((hC.2.2 x hx).1 hm).2; rw [hlk] at this; cases this
  refine ⟨List.nodup_append.2 ⟨hC.1, by simp, fun a ha b hb => by simp at hb; subst hb; exact fun e => hnew (e ▸ ha)⟩, ?_, fun y hy => ?_⟩
  · intro y hy
    rcases List.mem_append.1 hy with hy | hy
    · exact hC.2.1 y hy
    · simp at hy; subst hy; exact hx
  · by_cases hyx : y = x
    · subst hyx
      have := WideAt.sameKey_self (K.law.key (K.klit hx))
      simp [(mhas_iff W y).1 hhas, this]
    · have hs : (YtpakmeegldgjmaaGreat.klit P k kV y).sameKey (YtpakmeegldgjmaaGreat.klit P k kV x) = false := by
        cases hs : (YtpakmeegldgjmaaGreat.klit P k kV y).sameKey (YtpakmeegldgjmaaGreat.klit P k kV x)
        · rfl
        · exact absurd (K.klit_inj hy hx (WideAt.sameKey_eq hs)) hyx
      simp only [List.mem_append, List.mem_singleton, hyx, or_false, hs, Bool.not_false, Bool.and_true]
      exact hC.2.2 y hy
theorem Come.perm (h : MapIs P k e kV ok w b W) {left : Lit → Bool} {ss : List α} (hC : Come P k kV ok W left ss) (hl : ∀ kl, left kl = false) : ss.Perm (W.map (·.1)) := by
  refine (List.perm_ext_iff_of_nodup hC.1 h.2.1).2 fun x => ?_
  constructor
  · intro hx
    exact ((hC.2.2 x (hC.2.1 x hx)).1 hx).1
  · intro hx
    obtain ⟨p, hp, rfl⟩ := List.mem_map.1 hx
    exact (hC.2.2 p.1 (h.2.2.1 p hp)).2 ⟨hx, hl _⟩
end
end Go.Proofs.YtpakmeegldgjmaaGreat
/- Actors and dots as pairs of numbers, their orders, lists in order (plain; no program in sight). -/
namespace Go.Proofs.YtpakmeegldgjmaaGreat
set_option linter.unusedVariables false

/-- An actor: its device, its incarnation. -/
abbrev Ac := Int × Int
/-- A dot, or a mark: an actor, a number. -/
abbrev Dt := Ac × Int
def aLt (a b : Ac) : Bool := decide (a.1 < b.1 ∨ (a.1 = b.1 ∧ a.2 < b.2))
def dLt (x y : Dt) : Bool := decide (x.1.1 < y.1.1 ∨ (x.1.1 = y.1.1 ∧ (x.1.2 < y.1.2 ∨ (x.1.2 = y.1.2 ∧ x.2 < y.2))))
theorem ac_ext {a b : Ac} (h1 : a.1 = b.1) (h2 : a.2 = b.2) : a = b := Prod.ext h1 h2
theorem dt_ext {a b : Dt} (h1 : a.1.1 = b.1.1) (h2 : a.1.2 = b.1.2) (h3 : a.2 = b.2) : a = b := Prod.ext (Prod.ext h1 h2) h3
theorem aLt_irrefl (a : Ac) : aLt a a = false := by simp [aLt]
theorem aLt_trans {a b c : Ac} (h : aLt a b = true) (k : aLt b c = true) : aLt a c = true := by
  simp only [aLt, decide_eq_true_eq] at *; omega
theorem aLt_tri {a b : Ac} (h : aLt a b = false) (k : aLt b a = false) : a = b := by
  simp only [aLt, decide_eq_false_iff_not] at *
  exact ac_ext (by omega) (by omega)
theorem dLt_irrefl (a : Dt) : dLt a a = false := by simp [dLt]
theorem dLt_trans {a b c : Dt} (h : dLt a b = true) (k : dLt b c = true) : dLt a c = true := by
  simp only [dLt, decide_eq_true_eq] at *; omega
theorem dLt_tri {a b : Dt} (h : dLt a b = false) (k : dLt b a = false) : a = b := by
  simp only [dLt, decide_eq_false_iff_not] at *
  exact dt_ext (by omega) (by omega) (by omega)
theorem dLt_asymm {a b : Dt} (h : dLt a b = true) : dLt b a = false := by
  simp only [dLt, decide_eq_true_eq, decide_eq_false_iff_not] at *; omega
theorem dLt_of_aLt {x y : Dt} (h : aLt x.1 y.1 = true) : dLt x y = true := by
  simp only [dLt, aLt, decide_eq_true_eq] at *; omega

/-! Lists in order: one by their members. -/
section
variable {α : Type} {r : α → α → Bool}
theorem pw_ext (hi : ∀ a, r a a = false) (ht : ∀ a b c, r a b = true → r b c = true → r a c = true) {l m : List α} (hl : l.Pairwise fun x y => r x y = true) (hm : m.Pairwise fun x y => r x y = true) (h : ∀ x, x ∈ l ↔ x ∈ m) : l = m := by
  induction l generalizing m with
  | nil =>
    cases m with
    | nil => rfl
    | cons y t => exact absurd ((h y).2 (List.mem_cons_self ..)) (by simp)
  | cons x s ih =>
    cases m with
    | nil => exact absurd ((h x).1 (List.mem_cons_self ..)) (by simp)
    | cons y t =>
      rw [List.pairwise_cons] at hl hm
      have hxy : x = y := by
        rcases List.mem_cons.1 ((h x).1 (List.mem_cons_self ..)) with e | hx
        · exact e
        · rcases List.mem_cons.1 ((h y).2 (List.mem_cons_self ..)) with e | hy
          · exact e.symm
          · have := ht _ _ _ (hl.1 y hy) (hm.1 x hx)
            rw [hi] at this; cases this
      subst hxy
      congr 1
      refine ih hl.2 hm.2 fun z => ?_
      constructor
      · intro hz
        rcases List.mem_cons.1 ((h z).1 (List.mem_cons_of_mem _ hz)) with e | hz'
        · subst e
          have := hl.1 z hz; rw [hi] at this; cases this
        · exact hz'
      · intro hz
        rcases List.mem_cons.1 ((h z).2 (List.mem_cons_of_mem _ hz)) with e | hz'
        · subst e
          have := hm.1 z hz; rw [hi] at this; cases this
        · exact hz'
theorem pw_nodup (hi : ∀ a, r a a = false) {l : List α} (hl : l.Pairwise fun x y => r x y = true) : l.Nodup :=
  hl.imp fun {a b} h e => by subst e; rw [hi] at h; cases h
/-- A list in order, of which another one is a permutation, is what is sorted of it. -/
theorem pw_sort (hi : ∀ a, r a a = false) (ht : ∀ a b c, r a b = true → r b c = true → r a c = true) (hc : ∀ a b, r a b = false → r b a = false → a = b) {l m : List α} (hm : m.Pairwise fun x y => r x y = true) (hp : l.Perm m) :
    (l.mergeSort fun x y => !r y x) = m := by
  have hnd : l.Nodup := hp.nodup_iff.2 (pw_nodup hi hm)
  have h1 := List.pairwise_mergeSort (le := fun x y => !r y x) (fun a b c h k => by
    simp only [Bool.not_eq_true'] at *
    cases hca : r c a with
    | false => rfl
    | true =>
      exfalso
      cases hab : r a b with
      | true => have := ht _ _ _ hca hab; rw [k] at this; cases this
      | false => have := hc _ _ hab h; subst this; rw [k] at hca; cases hca) (fun a b => by
    cases h : r b a with
    | false => simp
    | true =>
      cases k : r a b with
      | false => simp
      | true => have := ht _ _ _ h k; rw [hi] at this; cases this) l
  have hp2 := List.mergeSort_perm l (fun x y => !r y x)
  refine pw_ext hi ht ?_ hm fun x => ?_
  · have hn2 : (l.mergeSort fun x y => !r y x).Nodup := hp2.nodup_iff.2 hnd
    have := List.Pairwise.and h1 hn2
    refine this.imp fun {a b} ⟨h, hne⟩ => ?_
    cases hab : r a b with
    | true => rfl
    | false =>
      simp only [Bool.not_eq_true'] at h
      exact absurd (hc _ _ hab h) hne
  · exact (hp2.trans hp).mem_iff
end
/-- Marks in order. -/
def Srt (M : List Dt) : Prop := M.Pairwise fun x y => aLt x.1 y.1 = true
/-- Dots in order. -/
def DSrt (L : List Dt) : Prop := L.Pairwise fun x y => dLt x y = true
theorem Srt.dsrt {M : List Dt} (h : Srt M) : DSrt M := h.imp dLt_of_aLt
theorem Srt.keys {M : List Dt} (h : Srt M) : (M.map (·.1)).Pairwise fun x y => aLt x y = true := List.pairwise_map.2 h
theorem Srt.nodup {M : List Dt} (h : Srt M) : (M.map (·.1)).Nodup := pw_nodup aLt_irrefl h.keys
theorem srt_ext {M N : List Dt} (h : Srt M) (k : Srt N) (hm : ∀ x, x ∈ M ↔ x ∈ N) : M = N :=
  pw_ext dLt_irrefl (fun _ _ _ => dLt_trans) h.dsrt k.dsrt hm
theorem dsrt_ext {M N : List Dt} (h : DSrt M) (k : DSrt N) (hm : ∀ x, x ∈ M ↔ x ∈ N) : M = N :=
  pw_ext dLt_irrefl (fun _ _ _ => dLt_trans) h k hm
theorem srt_iff_mget {M : List Dt} (h : Srt M) (x : Dt) : x ∈ M ↔ x.1 ∈ M.map (·.1) ∧ mget M x.1 = x.2 := by
  constructor
  · intro hx
    exact ⟨List.mem_map.2 ⟨x, hx, rfl⟩, mget_mem h.nodup hx⟩
  · rintro ⟨h1, h2⟩
    obtain ⟨y, hy, e⟩ := List.mem_map.1 h1
    rw [← e, mget_mem h.nodup hy] at h2
    have : x = y := Prod.ext e.symm h2.symm
    rw [this]; exact hy

/-- A mark put in its place. -/
def rset : List Dt → Ac → Int → List Dt
  | [], a, n => [(a, n)]
  | x :: r, a, n => if aLt x.1 a then x :: rset r a n else if x.1 = a then (a, n) :: r else (a, n) :: x :: r
theorem mem_rset {M : List Dt} (h : Srt M) (a : Ac) (n : Int) (x : Dt) : x ∈ rset M a n ↔ x = (a, n) ∨ (x ∈ M ∧ x.1 ≠ a) := by
  induction M with
  | nil => simp [rset]
  | cons y r ih =>
    have hs := List.pairwise_cons.1 h
    have ih := ih hs.2
    unfold rset
    by_cases h1 : aLt y.1 a = true
    · rw [if_pos h1, List.mem_cons, ih, List.mem_cons]
      have hne : y.1 ≠ a := fun e => by rw [e, aLt_irrefl] at h1; cases h1
      constructor
      · rintro (rfl | h | h)
        · exact .inr ⟨.inl rfl, hne⟩
        · exact .inl h
        · exact .inr ⟨.inr h.1, h.2⟩
      · rintro (h | ⟨h | h, k⟩)
        · exact .inr (.inl h)
        · exact .inl h
        · exact .inr (.inr ⟨h, k⟩)
    · rw [if_neg h1]
      have hall : ∀ z ∈ r, z.1 ≠ a := fun z hz e => by
        have := hs.1 z hz
        rw [e] at this; exact h1 this
      by_cases h2 : y.1 = a
      · rw [if_pos h2, List.mem_cons, List.mem_cons]
        constructor
        · rintro (h | h)
          · exact .inl h
          · exact .inr ⟨.inr h, hall x h⟩
        · rintro (h | ⟨h | h, k⟩)
          · exact .inl h
          · subst h; exact absurd h2 k
          · exact .inr h
      · rw [if_neg h2, List.mem_cons, List.mem_cons]
        constructor
        · rintro (h | h | h)
          · exact .inl h
          · subst h; exact .inr ⟨.inl rfl, h2⟩
          · exact .inr ⟨.inr h, hall x h⟩
        · rintro (h | ⟨h | h, k⟩)
          · exact .inl h
          · exact .inr (.inl h)
          · exact .inr (.inr h)
theorem srt_rset {M : List Dt} (h : Srt M) (a : Ac) (n : Int) : Srt (rset M a n) := by
  induction M with
  | nil => simp [rset, Srt]
  | cons y r ih =>
    have hs := List.pairwise_cons.1 h
    unfold rset
    by_cases h1 : aLt y.1 a = true
    · rw [if_pos h1]
      refine List.pairwise_cons.2 ⟨fun z hz => ?_, ih hs.2⟩
      rcases (mem_rset hs.2 a n z).1 hz with rfl | ⟨hz, _⟩
      · exact h1
      · exact hs.1 z hz
    · rw [if_neg h1]
      by_cases h2 : y.1 = a
      · rw [if_pos h2]
        subst h2
        exact List.pairwise_cons.2 ⟨hs.1, hs.2⟩
      · rw [if_neg h2]
        have h3 : aLt a y.1 = true := by
          cases h3 : aLt a y.1 with
          | true => rfl
          | false => exact absurd (aLt_tri (by simpa using h1) h3) h2
        refine List.pairwise_cons.2 ⟨fun z hz => ?_, h⟩
        rcases List.mem_cons.1 hz with rfl | hz
        · exact h3
        · exact aLt_trans h3 (hs.1 z hz)
theorem nodup_of_map {α β : Type} (f : α → β) {l : List α} (h : (l.map f).Nodup) : l.Nodup := by
  rw [List.nodup_iff_pairwise_ne, List.pairwise_map] at h
  rw [List.nodup_iff_pairwise_ne]
  exact h.imp fun {a b} hne e => hne (by rw [e])
theorem rset_perm {M : List Dt} (h : Srt M) (a : Ac) (n : Int) : (rset M a n).Perm ((a, n) :: M.filter fun p => decide (p.1 ≠ a)) := by
  refine (List.perm_ext_iff_of_nodup (nodup_of_map _ (srt_rset h a n).nodup) ?_).2 fun x => ?_
  · refine List.nodup_cons.2 ⟨fun hm => ?_, List.filter_sublist.nodup (nodup_of_map _ h.nodup)⟩
    have := (List.mem_filter.1 hm).2
    simp at this
  · rw [mem_rset h, List.mem_cons, List.mem_filter]
    simp
theorem mget_rset {M : List Dt} (h : Srt M) (a : Ac) (n : Int) (c : Ac) : mget (rset M a n) c = if c = a then n else mget M c := by
  have hs := srt_rset h a n
  split
  · rename_i e
    subst e
    exact mget_mem hs.nodup (p := (c, n)) ((mem_rset h _ _ _).2 (.inl rfl))
  · rename_i hne
    by_cases hc : c ∈ M.map (·.1)
    · obtain ⟨y, hy, rfl⟩ := List.mem_map.1 hc
      rw [mget_mem h.nodup hy]
      exact mget_mem hs.nodup ((mem_rset h _ _ _).2 (.inr ⟨hy, hne⟩))
    · rw [mget_none hc, mget_none]
      intro hm
      obtain ⟨y, hy, rfl⟩ := List.mem_map.1 hm
      rcases (mem_rset h _ _ _).1 hy with rfl | ⟨hy, _⟩
      · exact hne rfl
      · exact hc (List.mem_map.2 ⟨y, hy, rfl⟩)
/-- A mark put in its place, as the document does it. -/
def setL : List Dt → Ac → Int → Bool → List Dt
  | [], a, n, i => if i then [] else [(a, n)]
  | x :: r, a, n, i => (if !i && !aLt x.1 a then [(a, n)] else []) ++ (if x.1 ≠ a then [x] else []) ++ setL r a n (i || !aLt x.1 a)
theorem setL_true (M : List Dt) (a : Ac) (n : Int) : setL M a n true = M.filter fun p => decide (p.1 ≠ a) := by
  induction M with
  | nil => rfl
  | cons x r ih =>
    simp only [setL, Bool.not_true, Bool.false_and, Bool.false_eq_true, if_false, List.nil_append, Bool.true_or, ih, List.filter_cons, decide_eq_true_eq]
    split <;> rfl
theorem setL_eq {M : List Dt} (h : Srt M) (a : Ac) (n : Int) : setL M a n false = rset M a n := by
  induction M with
  | nil => rfl
  | cons x r ih =>
    have hs := List.pairwise_cons.1 h
    unfold setL rset
    by_cases h1 : aLt x.1 a = true
    · have hne : x.1 ≠ a := fun e => by rw [e, aLt_irrefl] at h1; cases h1
      simp [h1, hne, ih hs.2]
    · rw [if_neg h1]
      have h1' : aLt x.1 a = false := by simpa using h1
      have hf : r.filter (fun p => decide (p.1 ≠ a)) = r := List.filter_eq_self.2 fun z hz => by
        rw [decide_eq_true_eq]
        intro e
        have := hs.1 z hz
        rw [e] at this; exact h1 this
      simp only [h1', Bool.not_false, Bool.and_self, if_true, Bool.or_true, setL_true, hf]
      by_cases h2 : x.1 = a
      · simp [h2]
      · simp [h2]
end Go.Proofs.YtpakmeegldgjmaaGreat
/- Keys that are actors and dots: what they read as. -/
namespace Go.Proofs.YtpakmeegldgjmaaGreat
open Go.RowKit
set_option linter.unusedVariables false
set_option maxRecDepth 100000

theorem keyLits_i64 {P : Program} {d : Nat} {t : TypeId} (hu : P.underlying t = some (.int .i64)) {cs : List Value} {l : List Lit} (h : P.keyLits d t cs = some l) : ∃ n, cs = [.int .i64 n] ∧ (Lit.int .i64 n).wf = true := by
  cases d with
  | zero => simp [Program.keyLits] at h
  | succ d =>
    obtain ⟨n, rfl, rfl⟩ := keyLits_int' hu h
    unfold Program.keyLits at h
    rw [hu] at h
    simp only at h
    split at h
    · rename_i hw
      exact ⟨n, rfl, hw.2⟩
    · cases h
theorem keyLits_i64_mk {P : Program} {d : Nat} {t : TypeId} (hu : P.underlying t = some (.int .i64)) {n : Int} (hw : (Lit.int .i64 n).wf = true) : P.keyLits (d + 1) t [.int .i64 n] = some [.int .i64 n] := by
  unfold Program.keyLits
  rw [hu]
  simp [hw]
/-- An actor's cells, its value; may it be a key? -/
def acC (a : Ac) : List Value := [.int .i64 a.1, .int .i64 a.2]
def acV (a : Ac) : Value := .agg #[.int .i64 a.1, .int .i64 a.2]
def acOk (a : Ac) : Prop := (Lit.int .i64 a.1).wf = true ∧ (Lit.int .i64 a.2).wf = true
/-- A dot's. -/
def dtC (x : Dt) : List Value := [.int .i64 x.1.1, .int .i64 x.1.2, .int .i64 x.2]
def dtV (x : Dt) : Value := .agg #[.int .i64 x.1.1, .int .i64 x.1.2, .int .i64 x.2]
def dtOk (x : Dt) : Prop := (Lit.int .i64 x.1.1).wf = true ∧ (Lit.int .i64 x.1.2).wf = true ∧ (Lit.int .i64 x.2).wf = true
theorem actor_lits (m : Nat) (xs : List Value) (l : List Lit) (h : Tryz.prog.keyLits (m + 1) 48 xs = some l) : ∃ a, acOk a ∧ xs = [.int .i64 a.1, .int .i64 a.2] := by
  have hc : Tryz.prog.cellsOf 48 = 2 := by kernel_rfl
  have hi : Tryz.prog.cellsOf 3 = 1 := by kernel_rfl
  unfold Program.keyLits at h
  rw [Tryz.underlying48] at h
  simp only [hc] at h
  split at h
  · rename_i hl
    obtain ⟨hl, _⟩ := hl
    obtain ⟨x, y, rfl⟩ : ∃ x y, xs = [x, y] := by
      match xs, hl with
      | [x, y], _ => exact ⟨x, y, rfl⟩
    simp [hi, List.mapM_cons, Option.bind_eq_some_iff] at h
    obtain ⟨a, ha, b, ⟨a', hb, _⟩, _⟩ := h
    obtain ⟨n1, e1, w1⟩ := keyLits_i64 Tryz.underlying3 ha
    obtain ⟨n2, e2, w2⟩ := keyLits_i64 Tryz.underlying3 hb
    simp at e1 e2
    subst e1 e2
    exact ⟨(n1, n2), ⟨w1, w2⟩, rfl⟩
  · cases h
theorem actor_lits_mk (m : Nat) (a : Ac) (h : acOk a) : Tryz.prog.keyLits (m + 2) 48 [.int .i64 a.1, .int .i64 a.2] = some [.int .i64 a.1, .int .i64 a.2] := by
  have hc : Tryz.prog.cellsOf 48 = 2 := by kernel_rfl
  have hi : Tryz.prog.cellsOf 3 = 1 := by kernel_rfl
  have k1 := keyLits_i64_mk (d := m) Tryz.underlying3 h.1
  have k2 := keyLits_i64_mk (d := m) Tryz.underlying3 h.2
  unfold Program.keyLits
  rw [Tryz.underlying48]
  simp [hc, hi, List.mapM_cons, k1, k2]
theorem actor_wide : (match Tryz.prog.underlying 48 with | some (.array _ _) | some (.struct _) => true | _ => false) = true := by rw [Tryz.underlying48]
theorem size_big : ∃ m, Tryz.prog.types.size = m + 3 := ⟨Tryz.prog.types.size - 3, by
  have h : 3 ≤ Tryz.prog.types.size := of_decide_eq_true (by kernel_rfl)
  omega⟩
theorem laidOutK : laidOutB Tryz.prog = true := by kernel_rfl
theorem actor_key : KeyT Tryz.prog 48 acV acOk where
  law := Maps.Keyed.of_law (deep_law_laid laidOutK (m := 3) (by omega) (of_decide_eq_true (by kernel_rfl)) (by kernel_rfl) actor_wide)
  of a h := by
    obtain ⟨m, hm⟩ := size_big
    have hk : Tryz.prog.keyType 48 = true := by kernel_rfl
    have hc : Tryz.prog.cellsOf 48 = 2 := by kernel_rfl
    have hf : (acV a).formed Tryz.prog 48 = true := by
      unfold acV Value.formed
      simp only [Tryz.underlying48, hc]
      rfl
    have hl := actor_lits_mk (m + 2) a h
    rw [show m + 2 + 2 = m + 3 + 1 by omega, ← hm] at hl
    have hcs : (acV a).cells.toList = [.int .i64 a.1, .int .i64 a.2] := by simp [acV, Value.cells]
    refine ⟨.string (keyBytes [.int .i64 a.1, .int .i64 a.2]), ?_⟩
    unfold keyOf
    rw [Tryz.underlying48]
    rw [← hcs] at hl
    simp only [hk, hf, Bool.and_self, if_true, hl, Option.map_some]
  inv v l h := by
    obtain ⟨xs, L, rfl, hL, _⟩ := keyOf_top actor_wide h
    obtain ⟨a, ha, hx⟩ := actor_lits _ _ _ hL
    refine ⟨a, ha, ?_⟩
    unfold acV
    congr 1
    apply Array.toList_inj.1
    simpa using hx
  inj a b h := by
    simp [acV] at h
    exact Prod.ext h.1 h.2
theorem dot_lits (m : Nat) (xs : List Value) (l : List Lit) (h : Tryz.prog.keyLits (m + 1) 50 xs = some l) : ∃ a, dtOk a ∧ xs = dtC a := by
  have hc : Tryz.prog.cellsOf 50 = 3 := by kernel_rfl
  have ha : Tryz.prog.cellsOf 48 = 2 := by kernel_rfl
  have hi : Tryz.prog.cellsOf 3 = 1 := by kernel_rfl
  unfold Program.keyLits at h
  rw [Tryz.underlying50] at h
  simp only [hc] at h
  split at h
  · rename_i hl
    obtain ⟨hl, _⟩ := hl
    obtain ⟨x, y, z, rfl⟩ : ∃ x y z, xs = [x, y, z] := by
      match xs, hl with
      | [x, y, z], _ => exact ⟨x, y, z, rfl⟩
    simp [hi, ha, List.mapM_cons, Option.bind_eq_some_iff] at h
    obtain ⟨a, h1, b, ⟨a', h2, _⟩, _⟩ := h
    cases m with
    | zero => simp [Program.keyLits] at h1
    | succ m =>
      obtain ⟨p, hp, e1⟩ := actor_lits m _ _ h1
      obtain ⟨n2, e2, w2⟩ := keyLits_i64 Tryz.underlying3 h2
      simp at e1 e2
      obtain ⟨rfl, rfl⟩ := e1
      subst e2
      exact ⟨(p, n2), ⟨hp.1, hp.2, w2⟩, rfl⟩
  · cases h
theorem dot_lits_mk (m : Nat) (a : Dt) (h : dtOk a) : Tryz.prog.keyLits (m + 3) 50 [.int .i64 a.1.1, .int .i64 a.1.2, .int .i64 a.2] = some [.int .i64 a.1.1, .int .i64 a.1.2, .int .i64 a.2] := by
  have hc : Tryz.prog.cellsOf 50 = 3 := by kernel_rfl
  have ha : Tryz.prog.cellsOf 48 = 2 := by kernel_rfl
  have hi : Tryz.prog.cellsOf 3 = 1 := by kernel_rfl
  have k1 := actor_lits_mk m a.1 ⟨h.1, h.2.1⟩
  have k2 := keyLits_i64_mk (d := m + 1) Tryz.underlying3 h.2.2
  unfold Program.keyLits
  rw [Tryz.underlying50]
  simp [hc, ha, hi, List.mapM_cons, k1, k2]
theorem dot_wide : (match Tryz.prog.underlying 50 with | some (.array _ _) | some (.struct _) => true | _ => false) = true := by rw [Tryz.underlying50]
theorem dot_key : KeyT Tryz.prog 50 dtV dtOk where
  law := Maps.Keyed.of_law (deep_law_laid laidOutK (m := 3) (by omega) (of_decide_eq_true (by kernel_rfl)) (by kernel_rfl) dot_wide)
  of a h := by
    obtain ⟨m, hm⟩ := size_big
    have hk : Tryz.prog.keyType 50 = true := by kernel_rfl
    have hc : Tryz.prog.cellsOf 50 = 3 := by kernel_rfl
    have hf : (dtV a).formed Tryz.prog 50 = true := by
      unfold dtV Value.formed
      simp only [Tryz.underlying50, hc]
      rfl
    have hl := dot_lits_mk (m + 1) a h
    rw [show m + 1 + 3 = m + 3 + 1 by omega, ← hm] at hl
    have hcs : (dtV a).cells.toList = [.int .i64 a.1.1, .int .i64 a.1.2, .int .i64 a.2] := by simp [dtV, Value.cells]
    refine ⟨.string (keyBytes [.int .i64 a.1.1, .int .i64 a.1.2, .int .i64 a.2]), ?_⟩
    unfold keyOf
    rw [Tryz.underlying50]
    rw [← hcs] at hl
    simp only [hk, hf, Bool.and_self, if_true, hl, Option.map_some]
  inv v l h := by
    obtain ⟨xs, L, rfl, hL, _⟩ := keyOf_top dot_wide h
    obtain ⟨a, ha, hx⟩ := dot_lits _ _ _ hL
    refine ⟨a, ha, ?_⟩
    unfold dtV
    congr 1
    apply Array.toList_inj.1
    simpa [dtC] using hx
  inj a b h := by
    simp [dtV] at h
    exact Prod.ext (Prod.ext h.1 h.2.1) h.2.2
end Go.Proofs.YtpakmeegldgjmaaGreat
/- Maps keyed by structs, whatever their elements: a map block read as a list of pairs (in whatever order), and what look-ups, stores and deletes do to it. -/
namespace Go.Proofs.YtpakmeegldgjmaaGreat
open Go.RowKit
open Go.ChangeMaps (notKey putKey delKey)
open Go.WideShapes (sorted_perm)
set_option linter.unusedVariables false
set_option maxRecDepth 100000

section
variable {α : Type} [DecidableEq α]
/-- The element at a key; z where there is none. -/
def mvget (z : Value) : List (α × Value) → α → Value
  | [], _ => z
  | p :: r, a => if p.1 = a then p.2 else mvget z r a
def mvhas (W : List (α × Value)) (a : α) : Bool := W.any fun p => decide (p.1 = a)
theorem mvhas_iff (W : List (α × Value)) (a : α) : mvhas W a = true ↔ a ∈ W.map (·.1) := by
  unfold mvhas
  rw [List.any_eq_true]
  simp only [List.mem_map, decide_eq_true_eq]
theorem mvget_none (z : Value) {W : List (α × Value)} {a : α} (h : a ∉ W.map (·.1)) : mvget z W a = z := by
  induction W with
  | nil => rfl
  | cons p r ih =>
    simp only [List.map_cons, List.mem_cons, not_or] at h
    unfold mvget
    rw [if_neg (fun e => h.1 e.symm)]
    exact ih h.2
theorem mvget_mem (z : Value) {W : List (α × Value)} (hn : (W.map (·.1)).Nodup) {p : α × Value} (h : p ∈ W) : mvget z W p.1 = p.2 := by
  induction W with
  | nil => cases h
  | cons q r ih =>
    simp only [List.map_cons, List.nodup_cons] at hn
    unfold mvget
    rcases List.mem_cons.1 h with rfl | h'
    · rw [if_pos rfl]
    · rw [if_neg (fun e => hn.1 (by rw [e]; exact List.mem_map.2 ⟨p, h', rfl⟩))]
      exact ih hn.2 h'
end
/-- An element reads as itself. -/
def rdV (v : Value) : Option (DataW Value × List MemPlace) := some (.held v, [])
section
variable {α : Type} {P : Program} {k : TypeId} {kV : α → Value} {ok : α → Prop} {w w' : World} {b : Nat} {W : List (α × Value)}
/-- A pair as the reader has it. -/
def pV (P : Program) (k : TypeId) (kV : α → Value) (p : α × Value) : Lit × DataW Value := (YtpakmeegldgjmaaGreat.klit P k kV p.1, .held p.2)
/-- Block b is a map whose entries are the pairs of W. -/
def MapV (P : Program) (k : TypeId) (kV : α → Value) (ok : α → Prop) (w : World) (b : Nat) (W : List (α × Value)) : Prop :=
  w.ownsMap P k rdV b W.length (.map ((W.map (pV P k kV)).foldr DataW.insert [])) ∧ (W.map (·.1)).Nodup ∧ ∀ p ∈ W, ok p.1
theorem MapV.kept {row : Option Nat} (h : MapV P k kV ok w b W) (hg : w.grownBy w' row) (hne : some b ≠ row) : MapV P k kV ok w' b W := ⟨h.1.kept hg hne, h.2⟩
theorem MapV.lt (h : MapV P k kV ok w b W) : b < w.heap.size := h.1.lt
theorem MapV.alloc (h : MapV P k kV ok w b W) (o : Obj) : MapV P k kV ok (w.alloc o) b W := ⟨h.1.alloc o, h.2⟩
theorem MapV.drew (h : MapV P k kV ok w b W) : MapV P k kV ok w.drew b W := h
theorem MapV.block (h : MapV P k kV ok w b W) (hb : w'.heap[b]? = w.heap[b]?) : MapV P k kV ok w' b W := by
  refine ⟨?_, h.2⟩
  obtain ⟨es, clock, h1, h2⟩ := h.1
  exact ⟨es, clock, hb.trans h1, h2⟩
theorem MapV.ch {S : Nat → Prop} (h : MapV P k kV ok w b W) (hc : Ch S w w') (hS : ¬ S b) : MapV P k kV ok w' b W := h.block (hc.block b h.lt hS)
theorem MapV.below {B : Nat} (h : MapV P k kV ok w b W) (hb : Below B w w') (hB : b < B) : MapV P k kV ok w' b W := h.block (hb.block b hB)
theorem MapV.made (w : World) : MapV P k kV ok (w.alloc (.map #[] 0)) w.heap.size ([] : List (α × Value)) :=
  ⟨World.ownsMap_made w P k _, by simp, by simp⟩
theorem MapV.rising (K : KeyT P k kV ok) (h : MapV P k kV ok w b W) : DataW.rising ((W.map (pV P k kV)).foldr DataW.insert []) = true := by
  obtain ⟨es, clock, hb, F, hs, hD⟩ := h.1
  have := Maps.fit_rising K.law F
  injection hD with hD
  rw [hD]
  exact this
theorem MapV.apart (K : KeyT P k kV ok) (h : MapV P k kV ok w b W) : (W.map (pV P k kV)).Pairwise (fun p q => p.1 ≠ q.1) := by
  rw [List.pairwise_map]
  have h2 := h.2.1
  rw [List.nodup_iff_pairwise_ne, List.pairwise_map] at h2
  refine h2.imp_of_mem ?_
  intro p q hp hq hne he
  exact hne (K.klit_inj (h.2.2 p hp) (h.2.2 q hq) he)
theorem MapV.keys (K : KeyT P k kV ok) (h : MapV P k kV ok w b W) : Maps.Keys (Maps.KeysOf P k) (W.map (pV P k kV)) := by
  intro x hx
  obtain ⟨p, hp, rfl⟩ := List.mem_map.1 hx
  exact ⟨kV p.1, K.klit (h.2.2 p hp)⟩
/-- The datum at a key. -/
theorem MapV.at_ [DecidableEq α] (K : KeyT P k kV ok) (h : MapV P k kV ok w b W) (z : Value) {a : α} (ha : ok a) :
    (DataW.map ((W.map (pV P k kV)).foldr DataW.insert [])).atKey (YtpakmeegldgjmaaGreat.klit P k kV a) (.held z) = .held (mvget z W a) := by
  have hat := WideShapes.atKey_sorted (W.map (pV P k kV)) (h.rising K) (YtpakmeegldgjmaaGreat.klit P k kV a) (K.law.key (K.klit ha))
  by_cases hm : a ∈ W.map (·.1)
  · obtain ⟨p, hp, rfl⟩ := List.mem_map.1 hm
    rw [hat.2 (pV P k kV p) (List.mem_map.2 ⟨p, hp, rfl⟩) rfl, mvget_mem z h.2.1 hp]
    rfl
  · rw [hat.1 (fun x hx hxe => ?_), mvget_none z hm]
    obtain ⟨p, hp, rfl⟩ := List.mem_map.1 hx
    exact hm (List.mem_map.2 ⟨p, hp, K.klit_inj (h.2.2 p hp) ha hxe⟩)
theorem MapV.has_ [DecidableEq α] (K : KeyT P k kV ok) (h : MapV P k kV ok w b W) {a : α} (ha : ok a) :
    Maps.has (DataW.map ((W.map (pV P k kV)).foldr DataW.insert [])) (YtpakmeegldgjmaaGreat.klit P k kV a) = mvhas W a := by
  rw [Bool.eq_iff_iff, mvhas_iff, Maps.has_eq, List.any_eq_true]
  constructor
  · rintro ⟨x, hx, hs⟩
    obtain ⟨p, hp, rfl⟩ := List.mem_map.1 (mem_sorted.1 hx)
    have := K.klit_inj (h.2.2 p hp) ha (WideAt.sameKey_eq hs)
    exact List.mem_map.2 ⟨p, hp, this⟩
  · intro hm
    obtain ⟨p, hp, rfl⟩ := List.mem_map.1 hm
    exact ⟨pV P k kV p, mem_sorted.2 (List.mem_map.2 ⟨p, hp, rfl⟩), WideAt.sameKey_self (K.law.key (K.klit ha))⟩
/-- 'm[k]'. -/
theorem MapV.lookup [DecidableEq α] (K : KeyT P k kV ok) (h : MapV P k kV ok w b W) {t e : TypeId} (ht : P.underlying t = some (.map k e)) {z : Value} (hz : (zeroValue e).run P w = .ok z w) {a : α} (ha : ok a) :
    (Instr.lookup t (.map (some b)) (kV a) false).run P w = .ok (mvget z W a) w := by
  obtain ⟨v, ps, hrun, hv⟩ := h.1.lookup K.law ht hz (zd := .held z) (zp := []) rfl (K.klit ha)
  rw [h.at_ K z ha] at hv
  unfold rdV at hv
  simp only [Option.some.injEq, Prod.mk.injEq, DataW.held.injEq] at hv
  rw [hrun, hv.1]
/-- 'v, ok := m[k]'. -/
theorem MapV.lookup_ok [DecidableEq α] (K : KeyT P k kV ok) (h : MapV P k kV ok w b W) {t e : TypeId} (ht : P.underlying t = some (.map k e)) {z : Value} (hz : (zeroValue e).run P w = .ok z w) {a : α} (ha : ok a) :
    (Instr.lookup t (.map (some b)) (kV a) true).run P w = .ok (.tuple #[mvget z W a, .bool (mvhas W a)]) w := by
  obtain ⟨v, ps, hrun, hv⟩ := h.1.look_ok K.law ht hz (zd := .held z) (zp := []) rfl (K.klit ha)
  rw [h.at_ K z ha] at hv
  unfold rdV at hv
  simp only [Option.some.injEq, Prod.mk.injEq, DataW.held.injEq] at hv
  rw [hrun, h.has_ K ha, hv.1]
/-- 'len(m)'. -/
theorem MapV.len_ (h : MapV P k kV ok w b W) {t e : TypeId} (ht : P.underlying t = some (.map k e)) (ty : TypeId) : (Builtin.len_ #[t] ty #[.map (some b)]).run P w = .ok (.int .i64 W.length) w := by
  have := h.1.len ht ty
  rw [this]
  simp [Maps.size, length_sorted]
theorem ownsMapV_tight {R : Value → Option (DataW Value × List MemPlace)} {n : Nat} {l : List (Lit × DataW Value)} (h : w.ownsMap P k R b n (.map l)) : w.ownsMap P k R b l.length (.map l) := by
  obtain ⟨es, clock, hb, F, hs, hD⟩ := h
  refine ⟨es, clock, hb, F, ?_, hD⟩
  injection hD with hD
  rw [hD, length_sorted]
  simp
/-- The same pairs in another order. -/
theorem MapV.perm (K : KeyT P k kV ok) (h : MapV P k kV ok w b W) {W' : List (α × Value)} (hp : W.Perm W') : MapV P k kV ok w b W' := by
  have e1 : (W'.map (pV P k kV)).foldr DataW.insert [] = (W.map (pV P k kV)).foldr DataW.insert [] := by
    have hpm := hp.map (pV P k kV)
    have k1 := h.keys K
    have k2 : Maps.Keys (Maps.KeysOf P k) (W'.map (pV P k kV)) := Maps.keys_perm hpm k1
    have a2 : (W'.map (pV P k kV)).Pairwise (fun p q => p.1 ≠ q.1) := (hpm.pairwise_iff (fun {a b} (h : a.1 ≠ b.1) => h.symm)).1 (h.apart K)
    exact ChangeMaps.eq_of_perm_sorted (((sorted_perm _).trans hpm.symm).trans (sorted_perm _).symm) (Maps.sorted_sorted K.law.one _ k2 a2) (Maps.sorted_sorted K.law.one _ k1 (h.apart K))
  refine ⟨?_, (hp.map _).nodup_iff.1 h.2.1, fun p hp' => h.2.2 p (hp.mem_iff.2 hp')⟩
  rw [e1, ← hp.length_eq]
  exact h.1
theorem filter_notKeyV [DecidableEq α] (K : KeyT P k kV ok) {W : List (α × Value)} (hok : ∀ p ∈ W, ok p.1) {a : α} (ha : ok a) : (W.map (pV P k kV)).filter (notKey (YtpakmeegldgjmaaGreat.klit P k kV a)) = (W.filter fun p => decide (p.1 ≠ a)).map (pV P k kV) := by
  rw [List.filter_map]
  congr 1
  refine List.filter_congr fun p hp => ?_
  rw [Bool.eq_iff_iff, Function.comp, Maps.notKey_iff (K.law.key (K.klit ha)), decide_eq_true_eq]
  constructor
  · intro h e
    exact h (by rw [← e]; rfl)
  · intro h e
    exact h (K.klit_inj (hok p hp) ha e)
/-- 'm[k] = v': the pairs behind it, in whatever order. -/
theorem MapV.update [DecidableEq α] (K : KeyT P k kV ok) (h : MapV P k kV ok w b W) {t e : TypeId} (ht : P.underlying t = some (.map k e)) (hn : W.length < maxLen) {a : α} (ha : ok a) (v : Value)
    {W' : List (α × Value)} (hp : W'.Perm ((a, v) :: W.filter fun p => decide (p.1 ≠ a))) :
    ∃ w', (Instr.mapUpdate t (.map (some b)) (kV a) v).run P w = .ok () w' ∧ MapV P k kV ok w' b W' ∧ w.grownBy w' (some b) := by
  obtain ⟨w', hrun, ho, hg⟩ := h.1.update K.law ht hn (K.klit ha) (d := .held v) (ps := []) rfl
  have hpm : (W'.map (pV P k kV)).Perm ((YtpakmeegldgjmaaGreat.klit P k kV a, DataW.held v) :: (W.map (pV P k kV)).filter (notKey (YtpakmeegldgjmaaGreat.klit P k kV a))) := by
    rw [filter_notKeyV K h.2.2 ha]
    exact hp.map (pV P k kV)
  have e1 := Maps.sorted_put K.law.one (d := DataW.held v) ⟨_, K.klit ha⟩ (h.keys K) (h.apart K) hpm
  rw [DataW.put_eq, ← e1] at ho
  have ho' := ownsMapV_tight ho
  rw [length_sorted, List.length_map] at ho'
  have hnd : (W'.map (·.1)).Nodup := by
    rw [(hp.map (·.1)).nodup_iff]
    simp only [List.map_cons, List.nodup_cons]
    refine ⟨?_, ?_⟩
    · intro hm
      obtain ⟨p, hp', he'⟩ := List.mem_map.1 hm
      have := (List.mem_filter.1 hp').2
      simp at this
      exact this he'
    · exact (List.filter_sublist.map _).nodup h.2.1
  refine ⟨w', hrun, ⟨ho', hnd, ?_⟩, hg⟩
  intro p hp'
  rcases List.mem_cons.1 (hp.mem_iff.1 hp') with rfl | hp'
  · exact ha
  · exact h.2.2 p (List.mem_filter.1 hp').1
/-- 'delete(m, k)'. -/
theorem MapV.delete [DecidableEq α] (K : KeyT P k kV ok) (h : MapV P k kV ok w b W) {t e ty : TypeId} (ht : P.underlying t = some (.map k e)) {a : α} (ha : ok a)
    {W' : List (α × Value)} (hp : W'.Perm (W.filter fun p => decide (p.1 ≠ a))) :
    ∃ w', (Builtin.delete_ #[t, k] ty #[.map (some b), kV a]).run P w = .ok (.tuple #[]) w' ∧ MapV P k kV ok w' b W' ∧ w.grownBy w' (some b) := by
  obtain ⟨w', hrun, ho, hg⟩ := h.1.drop K.law ht (K.klit ha) ty
  have hpm : (W'.map (pV P k kV)).Perm ((W.map (pV P k kV)).filter (notKey (YtpakmeegldgjmaaGreat.klit P k kV a))) := by
    rw [filter_notKeyV K h.2.2 ha]
    exact hp.map (pV P k kV)
  have e1 := Maps.sorted_del K.law.one (h.keys K) (h.apart K) hpm
  rw [DataW.del_eq, ← e1] at ho
  have ho' := ownsMapV_tight ho
  rw [length_sorted, List.length_map] at ho'
  have hnd : (W'.map (·.1)).Nodup := by
    rw [(hp.map (·.1)).nodup_iff]
    exact (List.filter_sublist.map _).nodup h.2.1
  exact ⟨w', hrun, ⟨ho', hnd, fun p hp' => h.2.2 p (List.mem_filter.1 (hp.mem_iff.1 hp')).1⟩, hg.grown⟩

/-! A range over such a map: which keys have come. -/
/-- No key twice; a key has come just where the map has it and it is no longer to come. -/
def ComeV (P : Program) (k : TypeId) (kV : α → Value) (ok : α → Prop) (W : List (α × Value)) (left : Lit → Bool) (ss : List α) : Prop :=
  ss.Nodup ∧ (∀ x ∈ ss, ok x) ∧ ∀ x, ok x → (x ∈ ss ↔ (x ∈ W.map (·.1) ∧ left (YtpakmeegldgjmaaGreat.klit P k kV x) = false))
theorem ComeV.start [DecidableEq α] (K : KeyT P k kV ok) (h : MapV P k kV ok w b W) : ComeV P k kV ok W (Maps.has (DataW.map ((W.map (pV P k kV)).foldr DataW.insert []))) [] := by
  refine ⟨List.nodup_nil, by simp, fun x hx => ?_⟩
  rw [h.has_ K hx, ← mvhas_iff]
  cases mvhas W x <;> simp
theorem ComeV.step [DecidableEq α] (K : KeyT P k kV ok) (h : MapV P k kV ok w b W) {left : Lit → Bool} {ss : List α} (hC : ComeV P k kV ok W left ss) {x : α} (hx : ok x) {y : DataW Value} (hlk : left (YtpakmeegldgjmaaGreat.klit P k kV x) = true)
    (hat : ∀ zd, (DataW.map ((W.map (pV P k kV)).foldr DataW.insert [])).atKey (YtpakmeegldgjmaaGreat.klit P k kV x) zd = y) : ComeV P k kV ok W (fun z => left z && !z.sameKey (YtpakmeegldgjmaaGreat.klit P k kV x)) (ss ++ [x]) := by
  have hhas := Maps.has_true_of_atKey hat
  rw [h.has_ K hx] at hhas
  have hnew : x ∉ ss := fun hm => by have := ((hC.2.2 x hx).1 hm).2; rw [hlk] at this; cases this
  refine ⟨List.nodup_append.2 ⟨hC.1, by simp, fun a ha b hb => by simp at hb; subst hb; exact fun e => hnew (e ▸ ha)⟩, ?_, fun y hy => ?_⟩
  · intro y hy
    rcases List.mem_append.1 hy with hy | hy
    · exact hC.2.1 y hy
    · simp at hy; subst hy; exact hx
  · by_cases hyx : y = x
    · subst hyx
      have := WideAt.sameKey_self (K.law.key (K.klit hx))
      simp [(mvhas_iff W y).1 hhas, this]
    · have hs : (YtpakmeegldgjmaaGreat.klit P k kV y).sameKey (YtpakmeegldgjmaaGreat.klit P k kV x) = false := by
        cases hs : (YtpakmeegldgjmaaGreat.klit P k kV y).sameKey (YtpakmeegldgjmaaGreat.klit P k kV x)
        · rfl
        · exact absurd (K.klit_inj hy hx (WideAt.sameKey_eq hs)) hyx
      simp only [List.mem_append, List.mem_singleton, hyx, or_false, hs, Bool.not_false, Bool.and_true]
      exact hC.2.2 y hy
theorem ComeV.perm (h : MapV P k kV ok w b W) {left : Lit → Bool} {ss : List α} (hC : ComeV P k kV ok W left ss) (hl : ∀ kl, left kl = false) : ss.Perm (W.map (·.1)) := by
  refine (List.perm_ext_iff_of_nodup hC.1 h.2.1).2 fun x => ?_
  constructor
  · intro hx
    exact ((hC.2.2 x (hC.2.1 x hx)).1 hx).1
  · intro hx
    obtain ⟨p, hp, rfl⟩ := List.mem_map.1 hx
    exact (hC.2.2 p.1 (h.2.2 p hp)).2 ⟨hx, hl _⟩
end
end Go.Proofs.YtpakmeegldgjmaaGreat
/- Keys of cookies (three texts) as keys of maps. -/
namespace Go.Proofs.YtpakmeegldgjmaaGreat
open Go.RowKit
set_option linter.unusedVariables false
set_option maxRecDepth 100000

/-- A cookie's key: its name, its domain, its path. -/
abbrev Ky := List UInt8 × List UInt8 × List UInt8
def kyC (a : Ky) : List Value := [.string (bs a.1), .string (bs a.2.1), .string (bs a.2.2)]
def kyV (a : Ky) : Value := .agg #[.string (bs a.1), .string (bs a.2.1), .string (bs a.2.2)]
def kyOk (a : Ky) : Prop := a.1.length ≤ maxLen ∧ a.2.1.length ≤ maxLen ∧ a.2.2.length ≤ maxLen
theorem bs_sz (l : List UInt8) : (bs l).size = l.length := rfl
theorem keyLits_str {P : Program} {t : TypeId} {d : Nat} {cs : List Value} {l : List Lit} (hu : P.underlying t = some .string) (h : P.keyLits d t cs = some l) : ∃ s : List UInt8, cs = [.string (bs s)] ∧ s.length ≤ maxLen := by
  cases d with
  | zero => simp [Program.keyLits] at h
  | succ d =>
    unfold Program.keyLits at h
    rw [hu] at h
    match cs, h with
    | [.string s], h =>
      simp only at h
      split at h
      · rename_i hs
        refine ⟨s.data.toList, by cases s; simp [bs], ?_⟩
        simpa using hs
      · cases h
theorem keyLits_str_mk {P : Program} {t : TypeId} {d : Nat} {s : List UInt8} (hu : P.underlying t = some .string) (h : s.length ≤ maxLen) : P.keyLits (d + 1) t [.string (bs s)] = some [.string s] := by
  unfold Program.keyLits
  rw [hu]
  simp only
  rw [if_pos (by rw [bs_sz]; exact h)]
  simp [bs]
theorem key_lits (m : Nat) (xs : List Value) (l : List Lit) (h : Tryz.prog.keyLits (m + 1) 54 xs = some l) : ∃ a, kyOk a ∧ xs = kyC a := by
  have hc : Tryz.prog.cellsOf 54 = 3 := by kernel_rfl
  have hi : Tryz.prog.cellsOf 9 = 1 := by kernel_rfl
  unfold Program.keyLits at h
  rw [Tryz.underlying54] at h
  simp only [hc] at h
  split at h
  · rename_i hl
    obtain ⟨hl, _⟩ := hl
    obtain ⟨x, y, z, rfl⟩ : ∃ x y z, xs = [x, y, z] := by
      match xs, hl with
      | [x, y, z], _ => exact ⟨x, y, z, rfl⟩
    simp [hi, List.mapM_cons, Option.bind_eq_some_iff] at h
    obtain ⟨a, h1, b, ⟨a', h2, c, ⟨c', h3, _⟩, _⟩, _⟩ := h
    obtain ⟨s1, e1, w1⟩ := keyLits_str Tryz.underlying9 h1
    obtain ⟨s2, e2, w2⟩ := keyLits_str Tryz.underlying9 h2
    obtain ⟨s3, e3, w3⟩ := keyLits_str Tryz.underlying9 h3
    simp at e1 e2 e3
    subst e1 e2 e3
    exact ⟨(s1, s2, s3), ⟨w1, w2, w3⟩, rfl⟩
  · cases h
theorem key_lits_mk (m : Nat) (a : Ky) (h : kyOk a) : Tryz.prog.keyLits (m + 2) 54 (kyC a) = some [.string a.1, .string a.2.1, .string a.2.2] := by
  have hc : Tryz.prog.cellsOf 54 = 3 := by kernel_rfl
  have hi : Tryz.prog.cellsOf 9 = 1 := by kernel_rfl
  have k1 := keyLits_str_mk (d := m) Tryz.underlying9 h.1
  have k2 := keyLits_str_mk (d := m) Tryz.underlying9 h.2.1
  have k3 := keyLits_str_mk (d := m) Tryz.underlying9 h.2.2
  unfold Program.keyLits
  rw [Tryz.underlying54]
  simp [kyC, hc, hi, List.mapM_cons, k1, k2, k3]
theorem key_wide : (match Tryz.prog.underlying 54 with | some (.array _ _) | some (.struct _) => true | _ => false) = true := by rw [Tryz.underlying54]
theorem key_key : KeyT Tryz.prog 54 kyV kyOk where
  law := Maps.Keyed.of_law (deep_law_laid laidOutK (m := 3) (by omega) (of_decide_eq_true (by kernel_rfl)) (by kernel_rfl) key_wide)
  of a h := by
    obtain ⟨m, hm⟩ := size_big
    have hk : Tryz.prog.keyType 54 = true := by kernel_rfl
    have hc : Tryz.prog.cellsOf 54 = 3 := by kernel_rfl
    have hf : (kyV a).formed Tryz.prog 54 = true := by
      unfold kyV Value.formed
      simp only [Tryz.underlying54, hc]
      rfl
    have hl := key_lits_mk (m + 2) a h
    rw [show m + 2 + 2 = m + 3 + 1 by omega, ← hm] at hl
    have hcs : (kyV a).cells.toList = kyC a := by simp [kyV, kyC, Value.cells]
    refine ⟨.string (keyBytes [.string a.1, .string a.2.1, .string a.2.2]), ?_⟩
    unfold keyOf
    rw [Tryz.underlying54]
    rw [← hcs] at hl
    simp only [hk, hf, Bool.and_self, if_true, hl, Option.map_some]
  inv v l h := by
    obtain ⟨xs, L, rfl, hL, _⟩ := keyOf_top key_wide h
    obtain ⟨a, ha, hx⟩ := key_lits _ _ _ hL
    refine ⟨a, ha, ?_⟩
    unfold kyV
    congr 1
    apply Array.toList_inj.1
    simpa [kyC] using hx
  inj a b h := by
    simp [kyV, bs] at h
    exact Prod.ext h.1 (Prod.ext h.2.1 h.2.2)
end Go.Proofs.YtpakmeegldgjmaaGreat
/- Merged: QV, QS. -/
/- Vectors as marks in order (plain): raised, joined, met, covered. -/
namespace Go.Proofs.YtpakmeegldgjmaaGreat
set_option linter.unusedVariables false

def rightD (x : Dt) : Bool := dotB x.1.1 x.1.2 x.2
theorem rightD_iff (x : Dt) : rightD x = true ↔ 0 ≤ x.1.1 ∧ x.1.1 < 64 ∧ 1 ≤ x.1.2 ∧ x.1.2 ≤ 1048576 ∧ 1 ≤ x.2 ∧ x.2 ≤ 4294967296 := by
  simp only [rightD, dotB, actB, Bool.and_eq_true, decide_eq_true_eq]
  omega
/-- Marks that may be, in order. -/
def Vw (M : List Dt) : Prop := Srt M ∧ ∀ x ∈ M, rightD x = true
theorem Vw.nil : Vw [] := ⟨List.Pairwise.nil, by simp⟩
theorem Vw.tail {x : Dt} {M : List Dt} (h : Vw (x :: M)) : Vw M := ⟨(List.pairwise_cons.1 h.1).2, fun y hy => h.2 y (List.mem_cons_of_mem _ hy)⟩
theorem Vw.ge0 {M : List Dt} (h : Vw M) (a : Ac) : 0 ≤ mget M a := by
  by_cases ha : a ∈ M.map (·.1)
  · obtain ⟨y, hy, rfl⟩ := List.mem_map.1 ha
    rw [mget_mem h.1.nodup hy]
    have := (rightD_iff y).1 (h.2 y hy)
    omega
  · rw [mget_none ha]; omega
theorem Vw.le {M : List Dt} (h : Vw M) (a : Ac) : mget M a ≤ 4294967296 := by
  by_cases ha : a ∈ M.map (·.1)
  · obtain ⟨y, hy, rfl⟩ := List.mem_map.1 ha
    rw [mget_mem h.1.nodup hy]
    have := (rightD_iff y).1 (h.2 y hy)
    omega
  · rw [mget_none ha]; omega
theorem Vw.mem {M : List Dt} (h : Vw M) (x : Dt) : x ∈ M ↔ mget M x.1 = x.2 ∧ 1 ≤ x.2 := by
  rw [srt_iff_mget h.1]
  constructor
  · rintro ⟨h1, h2⟩
    obtain ⟨y, hy, e⟩ := List.mem_map.1 h1
    have := (rightD_iff y).1 (h.2 y hy)
    rw [← e, mget_mem h.1.nodup hy] at h2
    refine ⟨?_, by omega⟩
    rw [← e, mget_mem h.1.nodup hy]; exact h2
  · rintro ⟨h1, h2⟩
    refine ⟨?_, h1⟩
    exact Decidable.byContradiction fun hn => by
      rw [mget_none hn] at h1
      omega
theorem vw_ext {M N : List Dt} (h : Vw M) (k : Vw N) (e : ∀ a, mget M a = mget N a) : M = N :=
  srt_ext h.1 k.1 fun x => by rw [h.mem, k.mem, e]

def raisedB (M : List Dt) (a : Ac) (n : Int) : Bool := rightD (a, n) && decide (mget M a < n)
def rraise (M : List Dt) (a : Ac) (n : Int) : List Dt := if raisedB M a n = true then rset M a n else M
theorem Vw.set {M : List Dt} (h : Vw M) {a : Ac} {n : Int} (hr : rightD (a, n) = true) : Vw (rset M a n) := by
  refine ⟨srt_rset h.1 _ _, fun x hx => ?_⟩
  rcases (mem_rset h.1 _ _ _).1 hx with rfl | ⟨hx, _⟩
  · exact hr
  · exact h.2 x hx
theorem Vw.raise {M : List Dt} (h : Vw M) (a : Ac) (n : Int) : Vw (rraise M a n) := by
  unfold rraise
  split
  · rename_i hr
    simp only [raisedB, Bool.and_eq_true] at hr
    exact h.set hr.1
  · exact h
theorem mget_raise {M : List Dt} (h : Vw M) (a : Ac) (n : Int) (hr : rightD (a, n) = true ∨ n ≤ 0) (c : Ac) : mget (rraise M a n) c = if c = a then max (mget M a) n else mget M c := by
  have h0 := h.ge0 a
  unfold rraise
  by_cases hb : raisedB M a n = true
  · rw [if_pos hb, mget_rset h.1]
    simp only [raisedB, Bool.and_eq_true, decide_eq_true_eq] at hb
    split
    · omega
    · rfl
  · rw [if_neg hb]
    split
    · rename_i e
      subst e
      simp only [raisedB, Bool.and_eq_true, decide_eq_true_eq, not_and] at hb
      rcases hr with hr | hr
      · have := hb hr; omega
      · omega
    · rfl
/-- The greater numbers. -/
def rjoin (M O : List Dt) : List Dt := O.foldl (fun l x => rraise l x.1 x.2) M
theorem mget_cons (x : Dt) (r : List Dt) (c : Ac) : mget (x :: r) c = if x.1 = c then x.2 else mget r c := rfl
theorem mget_join {M O : List Dt} (h : Vw M) (hs : Srt O) (ho : ∀ x ∈ O, rightD x = true ∨ x.2 ≤ 0) (c : Ac) : mget (rjoin M O) c = max (mget M c) (mget O c) := by
  induction O generalizing M with
  | nil =>
    have := h.ge0 c
    show mget M c = max (mget M c) 0
    omega
  | cons x r ih =>
    have hs' := List.pairwise_cons.1 hs
    have hx := ho x (List.mem_cons_self ..)
    have e : rjoin M (x :: r) = rjoin (rraise M x.1 x.2) r := rfl
    rw [e, ih (h.raise _ _) hs'.2 (fun y hy => ho y (List.mem_cons_of_mem _ hy)), mget_raise h _ _ hx, mget_cons]
    have h0 := h.ge0 c
    by_cases hc : c = x.1
    · subst hc
      have hn : mget r x.1 = 0 := mget_none fun hm => by
        obtain ⟨y, hy, e⟩ := List.mem_map.1 hm
        have := hs'.1 y hy
        rw [e, aLt_irrefl] at this; cases this
      rw [if_pos rfl, if_pos rfl, hn]
      omega
    · rw [if_neg hc, if_neg (fun e => hc e.symm)]
/-- The next one of an actor. -/
def takenB (M : List Dt) (x : Dt) : Bool := rightD x && decide (mget M x.1 + 1 = x.2)
def rtake (M : List Dt) (x : Dt) : List Dt := if takenB M x = true then rset M x.1 x.2 else M
theorem Vw.take {M : List Dt} (h : Vw M) (x : Dt) : Vw (rtake M x) := by
  unfold rtake
  split
  · rename_i hr
    simp only [takenB, Bool.and_eq_true] at hr
    exact h.set hr.1
  · exact h
end Go.Proofs.YtpakmeegldgjmaaGreat
/- Sets of dots: a base, exceptions beyond it (plain). -/
namespace Go.Proofs.YtpakmeegldgjmaaGreat
set_option linter.unusedVariables false

/-! Dots in order, each once. -/
def insD : List Dt → Dt → List Dt
  | [], d => [d]
  | x :: r, d => if dLt x d then x :: insD r d else if x = d then x :: r else d :: x :: r
theorem mem_insD (L : List Dt) (d x : Dt) : x ∈ insD L d ↔ x = d ∨ x ∈ L := by
  induction L with
  | nil => simp [insD]
  | cons y r ih =>
    unfold insD
    split
    · rw [List.mem_cons, ih, List.mem_cons]
      constructor
      · rintro (h | h | h)
        · exact .inr (.inl h)
        · exact .inl h
        · exact .inr (.inr h)
      · rintro (h | h | h)
        · exact .inr (.inl h)
        · exact .inl h
        · exact .inr (.inr h)
    · split
      · rename_i h
        subst h
        simp
      · simp
theorem srt_insD {L : List Dt} (h : DSrt L) (d : Dt) : DSrt (insD L d) := by
  induction L with
  | nil => simp [insD, DSrt]
  | cons y r ih =>
    have hs := List.pairwise_cons.1 h
    unfold insD
    split
    · rename_i h1
      refine List.pairwise_cons.2 ⟨fun z hz => ?_, ih hs.2⟩
      rcases (mem_insD _ _ _).1 hz with rfl | hz
      · exact h1
      · exact hs.1 z hz
    · rename_i h1
      split
      · exact h
      · rename_i h2
        have h3 : dLt d y = true := by
          cases h3 : dLt d y with
          | true => rfl
          | false => exact absurd (dLt_tri (by simpa using h1) h3) h2
        refine List.pairwise_cons.2 ⟨fun z hz => ?_, h⟩
        rcases List.mem_cons.1 hz with rfl | hz
        · exact h3
        · exact dLt_trans h3 (hs.1 z hz)
def dsort (l : List Dt) : List Dt := l.foldl insD []
theorem foldl_insD (l L : List Dt) (h : DSrt L) : DSrt (l.foldl insD L) ∧ ∀ x, x ∈ l.foldl insD L ↔ x ∈ L ∨ x ∈ l := by
  induction l generalizing L with
  | nil => exact ⟨h, by simp⟩
  | cons d r ih =>
    obtain ⟨h1, h2⟩ := ih (insD L d) (srt_insD h d)
    refine ⟨h1, fun x => ?_⟩
    rw [List.foldl_cons, h2, mem_insD, List.mem_cons]
    constructor
    · rintro ((h | h) | h)
      · exact .inr (.inl h)
      · exact .inl h
      · exact .inr (.inr h)
    · rintro (h | h | h)
      · exact .inl (.inr h)
      · exact .inl (.inl h)
      · exact .inr h
theorem srt_dsort (l : List Dt) : DSrt (dsort l) := (foldl_insD l [] List.Pairwise.nil).1
theorem mem_dsort (l : List Dt) (x : Dt) : x ∈ dsort l ↔ x ∈ l := by
  rw [dsort, (foldl_insD l [] List.Pairwise.nil).2]; simp
theorem dsort_ext {l m : List Dt} (hm : DSrt m) (h : ∀ x, x ∈ l ↔ x ∈ m) : dsort l = m :=
  dsrt_ext (srt_dsort l) hm fun x => (mem_dsort l x).trans (h x)
theorem DSrt.nodup {L : List Dt} (h : DSrt L) : L.Nodup := pw_nodup dLt_irrefl h
theorem DSrt.filter {L : List Dt} (h : DSrt L) (p : Dt → Bool) : DSrt (L.filter p) := List.Pairwise.filter p h

/-! Up to which number of an actor there are all dots. -/
def IsUp (L : List Dt) (a : Ac) (n : Int) : Prop := 0 ≤ n ∧ (∀ j, 1 ≤ j → j ≤ n → (a, j) ∈ L) ∧ (a, n + 1) ∉ L
theorem isUp_unique {L : List Dt} {a : Ac} {n m : Int} (h : IsUp L a n) (k : IsUp L a m) : n = m := by
  obtain ⟨h1, h2, h3⟩ := h
  obtain ⟨k1, k2, k3⟩ := k
  rcases Int.lt_trichotomy n m with h | h | h
  · exact absurd (k2 (n + 1) (by omega) (by omega)) h3
  · exact h
  · exact absurd (h2 (m + 1) (by omega) (by omega)) k3
/-- How many dots of an actor are above a number. -/
def abv (L : List Dt) (a : Ac) (n : Int) : Nat := (L.filter fun x => decide (x.1 = a ∧ n < x.2)).length
theorem abv_lt {L : List Dt} {a : Ac} {n : Int} (h : (a, n + 1) ∈ L) : abv L a (n + 1) < abv L a n := by
  unfold abv
  induction L with
  | nil => cases h
  | cons x r ih =>
    rw [List.filter_cons, List.filter_cons]
    have hle : (r.filter fun x => decide (x.1 = a ∧ n + 1 < x.2)).length ≤ (r.filter fun x => decide (x.1 = a ∧ n < x.2)).length := by
      have e : (r.filter fun x => decide (x.1 = a ∧ n + 1 < x.2)) = (r.filter fun x => decide (x.1 = a ∧ n < x.2)).filter fun x => decide (x.1 = a ∧ n + 1 < x.2) := by
        rw [List.filter_filter]
        refine List.filter_congr fun y _ => ?_
        rw [Bool.eq_iff_iff]
        simp only [Bool.and_eq_true, decide_eq_true_eq]
        constructor
        · rintro ⟨h1, h2⟩
          exact ⟨⟨h1, h2⟩, h1, by omega⟩
        · rintro ⟨h1, _⟩
          exact h1
      rw [e]
      exact List.length_filter_le _ _
    rcases List.mem_cons.1 h with e | h
    · subst e
      rw [if_neg (by simp), if_pos (by simp; omega)]
      rw [List.length_cons]; omega
    · have := ih h
      by_cases h1 : x.1 = a ∧ n + 1 < x.2
      · rw [if_pos (by simpa using h1), if_pos (by simp; exact ⟨h1.1, by omega⟩)]
        simp only [List.length_cons]; omega
      · rw [if_neg (by simpa using h1)]
        split
        · rw [List.length_cons]; omega
        · exact this
def upF (L : List Dt) (a : Ac) : Nat → Int → Int
  | 0, n => n
  | k + 1, n => if (a, n + 1) ∈ L then upF L a k (n + 1) else n
def upN (L : List Dt) (a : Ac) : Int := upF L a L.length 0
theorem upF_is {L : List Dt} {a : Ac} (k : Nat) (n : Int) (h : abv L a n ≤ k) (h0 : 0 ≤ n) (hk : ∀ j, 1 ≤ j → j ≤ n → (a, j) ∈ L) : IsUp L a (upF L a k n) := by
  induction k generalizing n with
  | zero =>
    refine ⟨h0, hk, fun (hm : (a, n + 1) ∈ L) => ?_⟩
    have := abv_lt hm
    omega
  | succ k ih =>
    unfold upF
    split
    · rename_i hm
      have := abv_lt hm
      refine ih (n + 1) (by omega) (by omega) fun j h1 h2 => ?_
      by_cases hj : j = n + 1
      · subst hj; exact hm
      · exact hk j h1 (by omega)
    · rename_i hm
      exact ⟨h0, hk, hm⟩
theorem upN_is (L : List Dt) (a : Ac) : IsUp L a (upN L a) :=
  upF_is _ _ (List.length_filter_le _ _) (by omega) (fun j h1 h2 => by omega)
theorem upN_eq {L : List Dt} {a : Ac} {n : Int} (h : IsUp L a n) : upN L a = n := isUp_unique (upN_is L a) h
/-- Dots that may be, in order. -/
def Dw (L : List Dt) : Prop := DSrt L ∧ ∀ x ∈ L, rightD x = true
theorem Dw.nil : Dw [] := ⟨List.Pairwise.nil, by simp⟩
def rBaseStep (L : List Dt) (out : List Dt) (x : Dt) : List Dt := if 0 < upN L x.1 then setL out x.1 (upN L x.1) false else out
def rBase (L : List Dt) : List Dt := L.foldl (rBaseStep L) []
def rBeyond (L : List Dt) : List Dt := L.filter fun x => decide (upN L x.1 < x.2)
theorem rBase_fold {L : List Dt} (hL : Dw L) (T out : List Dt) (ho : Vw out) (h : ∀ a, mget out a = 0 ∨ mget out a = upN L a) :
    Vw (T.foldl (rBaseStep L) out) ∧ ∀ a, (mget (T.foldl (rBaseStep L) out) a = upN L a ∨ (mget (T.foldl (rBaseStep L) out) a = 0 ∧ a ∉ T.map (·.1) ∧ mget out a = 0)) := by
  induction T generalizing out with
  | nil =>
    refine ⟨ho, fun a => ?_⟩
    rcases h a with h | h
    · exact .inr ⟨h, by simp, h⟩
    · exact .inl h
  | cons x r ih =>
    rw [List.foldl_cons]
    have hup := upN_is L x.1
    have h1 : Vw (rBaseStep L out x) ∧ ∀ a, mget (rBaseStep L out x) a = if a = x.1 then upN L x.1 else mget out a := by
      unfold rBaseStep
      split
      · rename_i hp
        rw [setL_eq ho.1]
        refine ⟨ho.set (hL.2 _ (hup.2.1 _ (by omega) (by omega))), fun a => mget_rset ho.1 _ _ _⟩
      · rename_i hp
        refine ⟨ho, fun a => ?_⟩
        split
        · rename_i e
          subst e
          have h0 := hup.1
          rcases h x.1 with h | h
          · omega
          · omega
        · rfl
    obtain ⟨h2, h3⟩ := ih _ h1.1 (fun a => by
      rw [h1.2]
      split
      · rename_i e; subst e; exact .inr rfl
      · exact h a)
    refine ⟨h2, fun a => ?_⟩
    rcases h3 a with h4 | ⟨h4, h5, h6⟩
    · exact .inl h4
    · rw [h1.2] at h6
      by_cases e : a = x.1
      · rw [if_pos e] at h6
        subst e
        exact .inl (by rw [h4, h6])
      · rw [if_neg e] at h6
        exact .inr ⟨h4, by simp; exact ⟨e, by simpa using h5⟩, h6⟩
theorem rBase_vw {L : List Dt} (hL : Dw L) : Vw (rBase L) := (rBase_fold hL L [] Vw.nil (fun a => .inl rfl)).1
theorem mget_rBase {L : List Dt} (hL : Dw L) (a : Ac) : mget (rBase L) a = upN L a := by
  rcases (rBase_fold hL L [] Vw.nil (fun a => .inl rfl)).2 a with h | ⟨h, h2, _⟩
  · exact h
  · have : upN L a = 0 := upN_eq ⟨by omega, fun j h1 h3 => by omega, fun hm => h2 (List.mem_map.2 ⟨_, hm, rfl⟩)⟩
    rw [this]; exact h

/-! A base and exceptions. -/
def inS (M B : List Dt) (d : Dt) : Prop := d ∈ B ∨ (rightD d = true ∧ d.2 ≤ mget M d.1)
structure Sw (M B : List Dt) : Prop where
  vw : Vw M
  srt : DSrt B
  right : ∀ d ∈ B, rightD d = true
def Dis (M B : List Dt) : Prop := ∀ d ∈ B, mget M d.1 < d.2
def Good (M B : List Dt) (a : Ac) : Prop := (a, mget M a + 1) ∉ B
/-- The base and the exceptions of dots. -/
structure SetL (M B L : List Dt) : Prop where
  sw : Sw M B
  dis : Dis M B
  good : ∀ a, Good M B a
  dw : Dw L
  mem : ∀ d, d ∈ L ↔ inS M B d
theorem Vw.low {M : List Dt} (h : Vw M) {a : Ac} {j : Int} (h1 : 1 ≤ j) (h2 : j ≤ mget M a) : rightD (a, j) = true := by
  have hm : (a, mget M a) ∈ M := (h.mem _).2 ⟨rfl, by simp; omega⟩
  have := (rightD_iff _).1 (h.2 _ hm)
  rw [rightD_iff]
  simp only at *
  omega
theorem SetL.up {M B L : List Dt} (h : SetL M B L) (a : Ac) : upN L a = mget M a := by
  refine upN_eq ⟨h.sw.vw.ge0 a, fun j h1 h2 => (h.mem _).2 (.inr ⟨h.sw.vw.low h1 h2, h2⟩), fun hm => ?_⟩
  rcases (h.mem _).1 hm with h1 | ⟨_, h1⟩
  · exact h.good a h1
  · simp only at h1; omega
theorem SetL.base {M B L : List Dt} (h : SetL M B L) : rBase L = M :=
  vw_ext (rBase_vw h.dw) h.sw.vw fun a => by rw [mget_rBase h.dw, h.up]
theorem SetL.beyond {M B L : List Dt} (h : SetL M B L) : rBeyond L = B := by
  refine dsrt_ext (h.dw.1.filter _) h.sw.srt fun x => ?_
  unfold rBeyond
  rw [List.mem_filter, h.mem, h.up, decide_eq_true_eq]
  constructor
  · rintro ⟨h1 | ⟨_, h1⟩, h2⟩
    · exact h1
    · omega
  · intro hx
    exact ⟨.inl hx, h.dis x hx⟩
theorem SetL.nil : SetL [] [] [] where
  sw := ⟨Vw.nil, List.Pairwise.nil, by simp⟩
  dis := by intro d hd; cases hd
  good := by intro a h; cases h
  dw := Dw.nil
  mem d := by
    unfold inS
    constructor
    · intro h; cases h
    · rintro (h | ⟨h1, h2⟩)
      · cases h
      · have := (rightD_iff d).1 h1
        have : mget ([] : List Dt) d.1 = 0 := rfl
        omega
/-- What filling does at an actor. -/
structure FillR (M B : List Dt) (a : Ac) (M' B' : List Dt) : Prop where
  sw : Sw M' B'
  same : ∀ e, inS M' B' e ↔ inS M B e
  num : ∀ c, c ≠ a → mget M' c = mget M c
  bey : ∀ e : Dt, e.1 ≠ a → (e ∈ B' ↔ e ∈ B)
  sub : ∀ e ∈ B', e ∈ B
  dis : Dis M B → Dis M' B'
theorem FillR.refl {M B : List Dt} (h : Sw M B) (a : Ac) : FillR M B a M B := ⟨h, fun _ => Iff.rfl, fun _ _ => rfl, fun _ _ => Iff.rfl, fun _ h => h, fun h => h⟩
theorem FillR.trans {M B M1 B1 M2 B2 : List Dt} {a : Ac} (h : FillR M B a M1 B1) (k : FillR M1 B1 a M2 B2) : FillR M B a M2 B2 :=
  ⟨k.sw, fun e => (k.same e).trans (h.same e), fun c hc => (k.num c hc).trans (h.num c hc), fun e he => (k.bey e he).trans (h.bey e he), fun e he => h.sub e (k.sub e he), fun hd => k.dis (h.dis hd)⟩
theorem FillR.good {M B M' B' : List Dt} {a c : Ac} (h : FillR M B a M' B') (hc : c ≠ a) (hg : Good M B c) : Good M' B' c := by
  unfold Good at *
  rw [h.num c hc, h.bey _ (by simpa using hc)]
  exact hg
theorem FillR.step {M B : List Dt} (h : Sw M B) {a : Ac} {n : Int} (hn : n = mget M a + 1) (hd : (a, n) ∈ B) :
    FillR M B a (rset M a n) (B.filter fun x => decide (x ≠ (a, n))) := by
  have hr := h.right _ hd
  have hv : Vw (rset M a n) := h.vw.set hr
  have hmem : ∀ e : Dt, e ∈ (B.filter fun x => decide (x ≠ (a, n))) ↔ e ∈ B ∧ e ≠ (a, n) := fun e => by rw [List.mem_filter, decide_eq_true_eq]
  refine ⟨⟨hv, h.srt.filter _, fun e he => h.right e ((hmem e).1 he).1⟩, fun e => ?_, fun c hc => by rw [mget_rset h.vw.1, if_neg hc], fun e he => ?_, fun e he => ((hmem e).1 he).1, fun hdis e he => ?_⟩
  · unfold inS
    rw [hmem, mget_rset h.vw.1]
    constructor
    · rintro (⟨h1, _⟩ | ⟨h1, h2⟩)
      · exact .inl h1
      · split at h2
        · rename_i ha
          by_cases he : e.2 = n
          · have : e = (a, n) := Prod.ext ha he
            rw [this]; exact .inl hd
          · rw [ha]
            exact .inr ⟨h1, by omega⟩
        · exact .inr ⟨h1, h2⟩
    · rintro (h1 | ⟨h1, h2⟩)
      · by_cases he : e = (a, n)
        · subst he
          exact .inr ⟨hr, by simp⟩
        · exact .inl ⟨h1, he⟩
      · refine .inr ⟨h1, ?_⟩
        split
        · rename_i ha
          rw [ha] at h2; omega
        · exact h2
  · rw [hmem]
    constructor
    · exact fun h => h.1
    · exact fun h => ⟨h, fun e' => he (by rw [e'])⟩
  · obtain ⟨h1, h2⟩ := (hmem e).1 he
    have := hdis e h1
    rw [mget_rset h.vw.1]
    split
    · rename_i ha
      rw [ha] at this
      have : e.2 ≠ n := fun e2 => h2 (Prod.ext ha e2)
      omega
    · exact this
/-- A dot more: put beyond, then filled. -/
theorem SetL.add {M B L M' B' : List Dt} (h : SetL M B L) {d : Dt} (hr : rightD d = true) (hn : ¬ inS M B d)
    (hf : FillR M (insD B d) d.1 M' B') (hg : Good M' B' d.1) : SetL M' B' (insD L d) := by
  have hdis : Dis M (insD B d) := fun e he => by
    rcases (mem_insD _ _ _).1 he with rfl | he
    · rcases Int.lt_or_le (mget M e.1) e.2 with h1 | h1
      · exact h1
      · exact absurd (.inr ⟨hr, h1⟩) hn
    · exact h.dis e he
  refine ⟨hf.sw, hf.dis hdis, fun a => ?_, ⟨srt_insD h.dw.1 d, fun x hx => ?_⟩, fun e => ?_⟩
  · by_cases ha : a = d.1
    · subst ha; exact hg
    · refine hf.good ha fun hm => ?_
      rcases (mem_insD _ _ _).1 hm with h1 | h1
      · exact ha (by rw [← h1])
      · exact h.good a h1
  · rcases (mem_insD _ _ _).1 hx with rfl | hx
    · exact hr
    · exact h.dw.2 x hx
  · rw [mem_insD, hf.same, h.mem]
    unfold inS
    rw [mem_insD]
    constructor
    · rintro (h1 | h1 | h1)
      · exact .inl (.inl h1)
      · exact .inl (.inr h1)
      · exact .inr h1
    · rintro ((h1 | h1) | h1)
      · exact .inl h1
      · exact .inr (.inl h1)
      · exact .inr (.inr h1)
/-- As the document adds. -/
def rAdd (L : List Dt) (d : Dt) : List Dt := if rightD d = true then dsort (L ++ [d]) else L
theorem rAdd_right {L : List Dt} (h : Dw L) {d : Dt} (hr : rightD d = true) : rAdd L d = insD L d := by
  unfold rAdd
  rw [if_pos hr]
  refine dsort_ext (srt_insD h.1 d) fun x => ?_
  rw [List.mem_append, List.mem_singleton, mem_insD]
  exact Or.comm
theorem Dw.add {L : List Dt} (h : Dw L) (d : Dt) : Dw (rAdd L d) := by
  by_cases hr : rightD d = true
  · rw [rAdd_right h hr]
    refine ⟨srt_insD h.1 d, fun x hx => ?_⟩
    rcases (mem_insD _ _ _).1 hx with rfl | hx
    · exact hr
    · exact h.2 x hx
  · unfold rAdd
    rw [if_neg hr]; exact h
end Go.Proofs.YtpakmeegldgjmaaGreat
/- maps.Keys over a map whose keys are dots, its iterator; slices.AppendSeq, slices.Collect. -/
namespace Go.Proofs.YtpakmeegldgjmaaGreat
open Go.RowKit Go.Maps
set_option linter.unusedVariables false
set_option maxRecDepth 100000
attribute [local go_sem] Oper.semAt_some

/-- The iterator: each key once, in some order. -/
theorem keys1_dot (F : Fence) (n : Nat) (hf : F.fn 146) (hro : F.round = none) (hn : 1 ≤ n) (l Bm b : Nat) (M : List (Dt × Int)) (J Jx : List Dt → World → Prop)
    (hY : ∀ pre x W, J pre W → pre.length < M.length → YieldAt F (n - 1) Tryz.prog l #[dtV x] W fun e W' => (e = .returned (.bool true) ∧ J (pre ++ [x]) W' ∧ KeepsWalks W W') ∨ (e = .returned (.bool false) ∧ Jx (pre ++ [x]) W'))
    (W : World) (hJ : AbidesFrom W.heap.size J) (hm : W.cell? ⟨Bm, 0, none⟩ = some (.map (some b))) (hown : MapIs Tryz.prog 50 3 dtV dtOk W b M) (h0 : J [] W) :
    CallsIn F n Tryz.prog 146 #[.func (.yield l) #[] #[], .pointer (some ⟨Bm, 0, none⟩)] W fun e W' => (∃ v, e = .returned v) ∧
      ((∃ ss : List Dt, ss.Perm (M.map (·.1)) ∧ J ss W') ∨ (∃ pre, True ∧ Jx pre W')) := by
  have hsz : Maps.size (DataW.map ((M.map (pE Tryz.prog 50 dtV)).foldr DataW.insert [])) = M.length := by
    show List.length _ = _
    rw [length_sorted, List.length_map]
  have hCs := Come.start dot_key hown
  have hstep := fun left ss hC x hx y hlk hat => Come.step dot_key hown (left := left) (ss := ss) hC (x := x) hx (y := y) hlk hat
  have hperm := fun left ss hC hl => Come.perm hown (left := left) (ss := ss) hC hl
  have hown1 := hown.1
  clear hown
  generalize hD0 : (DataW.map ((M.map (pE Tryz.prog 50 dtV)).foldr DataW.insert []) : DataW Unit) = D0 at *
  generalize hnn : M.length = nn at *
  refine callsIn_of_wp Tryz.func146 rfl hf ?_ hro
  simp only [Tryz.ntmps146, List.size_toArray, List.length_cons, List.length_nil, Nat.reduceAdd, Nat.reduceSub, Array.replicate_succ, Array.replicate_zero, List.push_toArray, List.append_toArray, List.nil_append, List.cons_append]
  gi_wp2_with (first
    | (gi_at_range; refine wpListIn_range_own _ rfl _ 91 rfl 50 3 dot_key.law Tryz.underlying91 _ b nn _ rfl hown1 ?_; intro w0 hrg0 hg0 hs0)
    | gi_in)
  have HS := Lib.hid hstep
  have HP := Lib.hid hperm
  clear hstep hperm hD0 hnn
  go_frame
  gi_loopw [3] (fun _ wr => ∃ (left : Lit → Bool) (cnt : Nat) (ss : List Dt), wr.ranges Tryz.prog 50 (plainElem Tryz.prog 3) b W.heap.size nn D0 left cnt ∧ ss.length + cnt ≤ nn ∧ Come Tryz.prog 50 dtV dtOk M left ss ∧ J ss wr)
    (fun _ wr => wr.rangeLeft b W.heap.size)
  case atStart =>
    exact ⟨_, _, [], hrg0, by simp [hsz], hCs, hJ [] W w0 none h0 hg0 (fun r e => by cases e)⟩
  case round =>
    obtain ⟨left, cnt, ss, hrg, hcs, hC, hJs⟩ := hrel
    gi_wp2_with (first
      | (gi_at_next; refine wpListIn_next_ranges _ rfl _ rfl 50 dot_key.law (plainElem Tryz.prog 3) dtV id (fun key kl hk => by obtain ⟨x, _, hx⟩ := dot_key.inv _ _ hk; exact ⟨x, hx⟩) (fun v _ _ => ⟨v, rfl⟩) b W.heap.size nn _ _ _ rfl hrg ?_ ?_)
      | gi_in)
    · -- nothing is left
      intro hc0 hl0
      gi_wp2
      go_end0
      exact ⟨⟨_, rfl⟩, .inl ⟨ss, HP.out _ _ hC hl0, hJs⟩⟩
    · -- an entry has come
      intro d i s c kl yd yp w2 cnt2 hkey hlk hv hat hrg2 hlt hg2 hs2 hen
      obtain ⟨x', okx, ex⟩ := dot_key.inv _ _ hkey
      obtain rfl : ((d, i), s) = x' := dot_key.inj _ _ ex
      have hkl := dot_key.klit okx
      rw [hkey] at hkl
      obtain rfl := Option.some.inj hkl
      clear ex hkl
      have hJ2 : J ss w2 := hJ ss wr w2 (some W.heap.size) hJs hg2 (fun r e => by cases e; exact ⟨Nat.le_refl _, hrg.iter_walk⟩)
      have hC2 := HS.out _ _ hC _ okx _ hlk hat
      unfold dtV at hen
      have hJ3 := hJ ss w2 (w2.alloc (.cells (dtV ((d, i), s)).cells 50)) none hJ2 (World.grownBy_alloc _ _ none) (fun r e => by cases e)
      have hk0 := KeepsWalks.alloc w2 (.cells (dtV ((d, i), s)).cells 50)
      obtain ⟨fn, tmps, assign, body, hy, hR⟩ := hY ss ((d, i), s) _ hJ3 (by omega)
      have hRH := Lib.hid hR
      clear hR hs2
      simp only [dtV, Value.cells] at hy hk0
      gi_wp2
      refine hRH.out.mono ?_
      rintro e W3 (⟨rfl, hJ4, hk4⟩ | ⟨rfl, hJx⟩)
      · gi_wp2
        have hrg3 := (hrg2.of_walks hk0).of_walks hk4
        go_roundw
        case rel => exact ⟨_, cnt2, ss ++ [((d, i), s)], hrg3, by simp; omega, hC2, hJ4⟩
        case measure => rw [hrg3.left_eq, hrg.left_eq]; exact hlt
      · gi_wp2
        refine bodyPost_ret (results_none rfl _ _ _) rfl ?_
        exact ⟨⟨_, rfl⟩, .inr ⟨_, trivial, hJx⟩⟩
theorem keysS_dot (F : Fence) (n : Nat) (hf : F.fn 146) (hro : F.round = none) (hn : 1 ≤ n) (Bm b : Nat) (M : List (Dt × Int)) (w : World) (hBm : Bm < w.heap.size) (hm : w.cell? ⟨Bm, 0, none⟩ = some (.map (some b)))
    (hown : MapIs Tryz.prog 50 3 dtV dtOk w b M) :
    SeqStopsK F n Tryz.prog 146 #[.pointer (some ⟨Bm, 0, none⟩)] (fun x : Dt => #[dtV x]) KeepsWalks (fun ss => ss.Perm (M.map (·.1))) (fun _ => True) M.length w := fun l J Jx W hW hJ _ hY h0 =>
  keys1_dot F n hf hro hn l Bm b M J Jx hY W hJ ((hW.cell (p := ⟨Bm, 0, none⟩) hBm).trans hm) (hown.below hW hown.lt) h0
/-- maps.Keys: the map is boxed; the function value has the box. -/
theorem keysC_dot (F : Fence) (n : Nat) (hf : F.fn 115) (hro : F.round = none) (mb : Option Nat) (w : World) :
    CallsIn F n Tryz.prog 115 #[.map mb] w fun e w' => e = .returned (.func (.func 146) #[] #[.pointer (some ⟨w.heap.size, 0, none⟩)]) ∧ w' = w.alloc (.cells #[.map mb] 91) := by
  refine callsIn_of_wp Tryz.func115 rfl hf ?_ hro
  simp only [Tryz.ntmps115, List.size_toArray, List.length_cons, List.length_nil, Nat.reduceAdd, Nat.reduceSub, Array.replicate_succ, Array.replicate_zero, List.push_toArray, List.append_toArray, List.nil_append, List.cons_append]
  gi_wp2
  go_ret
  exact ⟨rfl, rfl⟩
theorem info_dot : (Tryz.prog.info? 50).map (fun i => (i.zero, i.size, i.bytes)) = some (some (.agg #[.int .i64 0, .int .i64 0, .int .i64 0]), 3, 24) := by kernel_rfl
theorem cells_new_dot (W : World) (t : TypeId) (x : Dt) : ∀ (j : Nat) (u : Value), (dtC x)[j]? = some u → (W.alloc (.cells (dtC x).toArray t)).cell? ((⟨W.heap.size, 0, none⟩ : Addr).add j) = some u := fun j u hu => by
  have := (Whole.new W t (dtC x).toArray).cell (0 + j)
  have e : ((⟨W.heap.size, 0, none⟩ : Addr).add j) = ⟨W.heap.size, 0 + j, none⟩ := by simp [Addr.add]; try omega
  rw [e, this, Nat.zero_add]
  simpa using hu
theorem whole_own_dot (B : Nat) (t : TypeId) (cs : Array Value) : Go.Own (fun (_ : Unit) W => Whole W B t cs) := fun s X Y row hs hg hrow =>
  hs.grown hg (fun e' => by obtain ⟨o, ho, hc⟩ := hrow B e'; rw [show X.heap[B]? = _ from hs] at ho; cases ho; cases hc)
set_option maxHeartbeats 4000000 in
/-- slices.AppendSeq(nil, seq): what the iterator gives, in its order; nil just where it gives nothing. -/
theorem appendSeq_dot (F : Fence) (n : Nat) (hf : F.fn 166) (hro : F.round = none) (hn : 3 ≤ n) (g : Nat) (lb : Array Value) (hFg : F.fn g) (eg : ∀ args w, (callFunc g args).run Tryz.prog w = .ok (.enter g args) w)
    (S : List Dt → Prop) (Sp : List Dt → Prop) (N : Nat) (hN : N ≤ maxLen) (hNb : N * 24 ≤ 140737488355328) (w : World) (hseq : SeqStopsK F (n - 1) Tryz.prog g lb (fun x : Dt => #[dtV x]) KeepsWalks S Sp N w) :
    CallsIn F n Tryz.prog 166 #[.slice none 0 0, .func (.func g) #[] lb] w fun e w' => ∃ (v : Value) (ss : List Dt), e = .returned v ∧ S ss ∧ ss.length ≤ N ∧ w'.ownsRow w.heap.size 50 3 v ss.length (ss.flatMap dtC) ∧ Below w.heap.size w w' := by
  have h1 : 1 ≤ n := by omega
  obtain ⟨i0, hi, hz0, hz1, hz2⟩ := info_parts info_dot
  refine callsIn_of_wp_marks Tryz.func166 rfl hf ?_ hro
  simp only [Tryz.ntmps166, List.size_toArray, List.length_cons, List.length_nil, Nat.reduceAdd, Nat.reduceSub, Array.replicate_succ, Array.replicate_zero, List.push_toArray, List.append_toArray, List.nil_append, List.cons_append]
  gi_wp2
  have bO := Boxed.new w 57 (.slice none 0 0)
  have hB0 : Below w.heap.size w (w.alloc (.cells #[.slice none 0 0] 57)) := (Below.refl _ w).alloc (Nat.le_refl _) _
  have hs0 : (w.alloc (.cells #[.slice none 0 0] 57)).heap.size = w.heap.size + 1 := by simp
  have hseq0 : SeqStopsK F (n - 1) Tryz.prog g lb (fun x : Dt => #[dtV x]) KeepsWalks S Sp N (w.alloc (.cells #[.slice none 0 0] 57)) := fun l J Jx W hW => hseq l J Jx W (hB0.trans (hW.mono hB0.size))
  generalize w.alloc (.cells #[.slice none 0 0] 57) = W0 at *
  refine wpIn_rangeFunc_ownH hro h1 (gf := g) (lb := lb) rfl hFg eg hseq0 walksK_t walksK_b (Below.refl _ _) (fun _ => rfl)
    (fun pre W => ((∃ v, Boxed W w.heap.size 57 v ∧ W.ownsRow w.heap.size 50 3 v pre.length (pre.flatMap dtC) ∧ True) ∧ Below w.heap.size w W) ∧ pre.length ≤ N)
    (fun _ _ _ => False)
    (OwnFrom.and (OwnFrom.and (Go.Own.from (holdsRow_own w.heap.size w.heap.size 57 50 3 (fun pre : List Dt => pre.length) (fun pre : List Dt => pre.flatMap dtC) (fun (pre : List Dt) v => True)) _) (ownFrom_below (Nat.le_refl _) (by omega))) (ownFrom_pure _ (fun pre : List Dt => pre.length ≤ N)))
    (fun _ _ _ _ _ hs _ _ => hs)
    ⟨⟨⟨_, bO, World.ownsRow_nil _ _ _ _, trivial⟩, hB0⟩, Nat.zero_le _⟩
    (fun x a' W => ∃ Bx, w.heap.size < Bx ∧ Whole W Bx 50 (dtC x).toArray ∧ a' = { tmps := #[.slice none 0 0, .func (.func g) #[] lb, .pointer (some ⟨w.heap.size, 0, none⟩), undef, .slice none 0 0, .pointer (some ⟨Bx, 0, none⟩), .func (.func g) #[] lb, dtV x, undef, undef, undef, undef, undef], defers := [] })
    (fun x a' _ X Y row hs hg hr => by obtain ⟨Bx, h1, h2, h3⟩ := hs; exact ⟨Bx, h1, whole_own_dot Bx 50 (dtC x).toArray () X Y row h2 hg (fun r e => (hr r e).2), h3⟩)
    ?assign ?body ?done ?stop
  case assign =>
    rintro l pre ⟨⟨d, i⟩, s⟩ W K ⟨⟨⟨v, hv, hrow, _⟩, hB⟩, hl⟩ hK
    unfold dtV
    gi_wp2
    exact hK _ _ ((KeepsOthers.alloc _ _).from _) (KeepsWalks.alloc _ _) ⟨⟨⟨v, hv.alloc _, hrow.alloc _, trivial⟩, hB.alloc hB.size _⟩, hl⟩ ⟨W.heap.size, hv.lt, Whole.new W 50 _, rfl⟩
  case body =>
    rintro l pre ⟨⟨d, i⟩, s⟩ a' W hl ⟨r, hr⟩ ⟨⟨⟨v, hv, hrow, _⟩, hB⟩, hle⟩ ⟨Bx, hBx, bX, rfl⟩ hlt
    have hc := hv.cell
    have hne : 57 ≠ 50 := by decide
    have c0 := bX.cell 0
    have c1 := bX.cell 1
    have c2 := bX.cell 2
    simp only [dtC] at c0 c1 c2
    change _ = some _ at c0
    change _ = some _ at c1
    change _ = some _ at c2
    have hcn := cells_new_dot W 50 ((d, i), s)
    unfold dtC at hcn
    gi_wp2_with (gi_at_builtin; refine wpListIn_append_own _ rfl _ _ 57 rfl w.heap.size 50 i0 (.agg #[.int .i64 0, .int .i64 0, .int .i64 0]) 3 24 Tryz.underlying57 hi hz0 hz1 hz2 rfl (by decide) _ _ _ rfl (hrow.alloc _) ⟨W.heap.size, 0, none⟩ 1 1 (dtC ((d, i), s)) rfl rfl hcn (by simp [Value.oneCell', dtC]) (by omega) (by omega) (by have := hB.size; simp; omega) ?_; intro v' w1 hown' hgrow _; obtain ⟨g', cap', rfl⟩ := ownsRow_succ hown'; obtain ⟨hv1, hv2, hr2, hk2, hb2⟩ := hv.appended hne hrow hB.size (Nat.le_refl _) hown' hgrow; have hc1 := hv1.cell; have hf1 := hv1.frozen)
    refine ⟨hk2.from _, hk2.walks, ⟨⟨_, hv2, ?_⟩, hB.trans hb2⟩, by simp; omega⟩
    have e1 : (pre ++ [((d, i), s)]).length = pre.length + 1 := by simp
    have e2 : (pre ++ [((d, i), s)]).flatMap dtC = pre.flatMap dtC ++ dtC ((d, i), s) := by simp
    rw [e1, e2]
    exact hr2
  case done =>
    rintro D ys W hD hS ⟨⟨⟨v, hv, hrow, _⟩, hB⟩, hle⟩ hK
    have hc := hv.cell
    gi_wp2
    refine ⟨by simp, .inl ⟨_, _, rfl, run_takeDeferred hK, ?_⟩⟩
    exact ⟨_, results_tmp rfl _ _ _, v, ys, rfl, hS, hle, ownsRow_putObj hrow _ hK rfl, hB.trans (belowK_b (w := w) (Nat.le_refl _) W D _ _ (by omega) hK rfl rfl)⟩
  case stop =>
    rintro D c pre W _ _ h _
    exact h.elim
set_option maxHeartbeats 4000000 in
theorem collect_dot (F : Fence) (n : Nat) (hf : F.fn 144) (hf2 : F.fn 166) (hro : F.round = none) (hn : 4 ≤ n) (g : Nat) (lb : Array Value) (hFg : F.fn g) (eg : ∀ args w, (callFunc g args).run Tryz.prog w = .ok (.enter g args) w)
    (S : List Dt → Prop) (Sp : List Dt → Prop) (N : Nat) (hN : N ≤ maxLen) (hNb : N * 24 ≤ 140737488355328) (w : World) (hseq : SeqStopsK F (n - 1 - 1) Tryz.prog g lb (fun x : Dt => #[dtV x]) KeepsWalks S Sp N w) :
    CallsIn F n Tryz.prog 144 #[.func (.func g) #[] lb] w fun e w' => ∃ (v : Value) (ss : List Dt), e = .returned v ∧ S ss ∧ ss.length ≤ N ∧ w'.ownsRow w.heap.size 50 3 v ss.length (ss.flatMap dtC) ∧ Below w.heap.size w w' := by
  have h1 : 1 ≤ n := by omega
  have hA := Lib.hid (appendSeq_dot F (n - 1) hf2 hro (by omega) g lb hFg eg S Sp N hN hNb w hseq)
  clear hseq
  refine callsIn_of_wp Tryz.func144 rfl hf ?_ hro
  simp only [Tryz.ntmps144, List.size_toArray, List.length_cons, List.length_nil, Nat.reduceAdd, Nat.reduceSub, Array.replicate_succ, Array.replicate_zero, List.push_toArray, List.append_toArray, List.nil_append, List.cons_append]
  gi_wp2_with (gi_at_call 166; refine hA.out.mono ?_; rintro e w' ⟨v, ss, rfl, hS, hl, hrow, hb⟩)
  go_ret
  exact ⟨v, ss, rfl, hS, hl, hrow, hb⟩
end Go.Proofs.YtpakmeegldgjmaaGreat
/- Merged: E1, S1, S2. -/
/- Dots, or marks, as cells: a slice that reads as a list of them. -/
namespace Go.Proofs.YtpakmeegldgjmaaGreat
open Go.RowKit
set_option linter.unusedVariables false
set_option maxRecDepth 100000

theorem flatMap_at {α : Type} (enc : α → List Value) (k : Nat) (hk : ∀ x, (enc x).length = k) (l : List α) (t : Nat) : (l.flatMap enc)[t]? = (l[t / k]?).bind fun x => (enc x)[t % k]? := by
  induction l generalizing t with
  | nil => simp
  | cons x r ih =>
    rw [List.flatMap_cons]
    by_cases h : t < k
    · rw [List.getElem?_append_left (by rw [hk]; exact h), Nat.div_eq_of_lt h, Nat.mod_eq_of_lt h]
      rfl
    · have hk0 : 0 < k ∨ k = 0 := by omega
      rcases hk0 with hk0 | hk0
      · obtain ⟨u, rfl⟩ : ∃ u, t = u + k := ⟨t - k, by omega⟩
        rw [List.getElem?_append_right (by rw [hk]; omega), hk, Nat.add_sub_cancel, ih, Nat.add_div_right _ hk0, Nat.add_mod_right]
        rfl
      · subst hk0
        have hz : ∀ y, enc y = [] := fun y => List.eq_nil_of_length_eq_zero (hk y)
        rw [hz, List.nil_append, ih]
        simp [hz]
theorem flatMap_len {α : Type} (enc : α → List Value) (k : Nat) (hk : ∀ x, (enc x).length = k) (l : List α) : (l.flatMap enc).length = l.length * k := by
  induction l with
  | nil => simp
  | cons x r ih => rw [List.flatMap_cons, List.length_append, ih, hk, List.length_cons, Nat.add_mul]; omega
theorem wf_of {n : Int} (h1 : -9223372036854775808 ≤ n) (h2 : n ≤ 9223372036854775807) : (Lit.int .i64 n).wf = true := by
  have e1 : IntKind.i64.min = -9223372036854775808 := by decide
  have e2 : IntKind.i64.max = 9223372036854775807 := by decide
  simp only [Lit.wf, e1, e2, Bool.and_eq_true, decide_eq_true_eq]
  exact ⟨h1, h2⟩
/-- Dots, or marks, as cells. -/
def dts (L : List Dt) : List Value := L.flatMap dtC
theorem dtC_len (x : Dt) : (dtC x).length = 3 := rfl
theorem dts_get {L : List Dt} {i : Nat} {x : Dt} (h : L[i]? = some x) : (dts L)[i * 3]? = some (.int .i64 x.1.1) ∧ (dts L)[i * 3 + 1]? = some (.int .i64 x.1.2) ∧ (dts L)[i * 3 + 2]? = some (.int .i64 x.2) := by
  have e := flatMap_at dtC 3 dtC_len L
  unfold dts
  rw [e, e, e, show i * 3 / 3 = i by omega, show (i * 3 + 1) / 3 = i by omega, show (i * 3 + 2) / 3 = i by omega, show i * 3 % 3 = 0 by omega, show (i * 3 + 1) % 3 = 1 by omega, show (i * 3 + 2) % 3 = 2 by omega, h]
  exact ⟨rfl, rfl, rfl⟩
/-- A slice that reads as dots (or marks). -/
def Ds (w : World) (B : Nat) (A : Option Addr) (L : List Dt) : Prop := Rd w B 3 A L.length (dts L)
theorem Ds.below {w w' : World} {B : Nat} {A : Option Addr} {L : List Dt} (h : Ds w B A L) (hb : Below B w w') : Ds w' B A L := Rd.below h hb
theorem Ds.more {w : World} {B B' : Nat} {A : Option Addr} {L : List Dt} (h : Ds w B A L) (hb : B ≤ B') : Ds w B' A L := Rd.more h hb
theorem Ds.at_ {w : World} {B i : Nat} {A : Option Addr} {L : List Dt} {x : Dt} (h : Ds w B A L) (hx : L[i]? = some x) : ∃ b o, A = some ⟨b, o, none⟩ ∧ b < B ∧ w.cell? ⟨b, o + i * 3, none⟩ = some (.int .i64 x.1.1) ∧ w.cell? ⟨b, o + i * 3 + 1, none⟩ = some (.int .i64 x.1.2) ∧ w.cell? ⟨b, o + i * 3 + 2, none⟩ = some (.int .i64 x.2) := by
  have hi : i < L.length := (List.getElem?_eq_some_iff.1 hx).1
  obtain ⟨b, o, hA, hb, hc⟩ := h.2 (by omega)
  obtain ⟨e0, e1, e2⟩ := dts_get hx
  exact ⟨b, o, hA, hb, hc _ _ e0, by rw [Nat.add_assoc]; exact hc _ _ e1, by rw [Nat.add_assoc]; exact hc _ _ e2⟩
theorem Own.ds {w : World} {base c : Nat} {e : TypeId} {A : Option Addr} {L : List Dt} (h : Own w base e 3 A L.length c (dts L)) : Ds w w.heap.size A L := h.rd
end Go.Proofs.YtpakmeegldgjmaaGreat
/- Comparing actors, dots: no draw is lost (slices.SortFunc wants to know). -/
namespace Go.Proofs.YtpakmeegldgjmaaGreat
open Go.RowKit Go.Sort
set_option linter.unusedVariables false
set_option maxRecDepth 100000

/-- As Below, and no draw is lost. -/
def UpN (n : Nat) (w w' : World) : Prop := Below n w w' ∧ w.drawn ≤ w'.drawn
theorem UpN.refl (n : Nat) (w : World) : UpN n w w := ⟨Below.refl _ _, Nat.le_refl _⟩
theorem UpN.drew {n : Nat} {w w' : World} (h : UpN n w w') : UpN n w w'.drew := ⟨h.1.drew, by have := h.2; show w.drawn ≤ w'.drawn + 1; omega⟩
theorem UpN.alloc {n : Nat} {w w' : World} (h : UpN n w w') (hn : n ≤ w'.heap.size) (o : Obj) : UpN n w (w'.alloc o) := ⟨h.1.alloc hn o, h.2⟩
theorem UpN.trans {n : Nat} {w w1 w2 : World} (h : UpN n w w1) (k : UpN n w1 w2) : UpN n w w2 := ⟨h.1.trans k.1, Nat.le_trans h.2 k.2⟩
theorem UpN.le {n m : Nat} {w w' : World} (h : UpN n w w') (hm : m ≤ n) : UpN m w w' := ⟨below_of_le h.1 hm, h.2⟩
theorem UpN.grow {w w' : World} (h : UpN w.heap.size w w') : ∃ q os, w' = Go.Sort.grow (w.drewN q) os := by
  refine ⟨w'.drawn - w.drawn, w'.heap.extract w.heap.size w'.heap.size, ?_⟩
  have hd := h.2
  have hs := h.1.size
  have e : w'.heap = w.heap ++ w'.heap.extract w.heap.size w'.heap.size := by
    apply Array.ext_getElem?
    intro i
    by_cases hi : i < w.heap.size
    · rw [h.1.block i hi, Array.getElem?_append_left hi]
    · rw [Array.getElem?_append_right (by omega), Array.getElem?_extract]
      split
      · congr 1; omega
      · rw [Array.getElem?_eq_none (by omega)]
  cases w' with
  | mk heap tape drawn os output =>
    cases w with
    | mk heap0 tape0 drawn0 os0 output0 =>
      obtain ⟨h1, h2, h3, h4, h5⟩ := h.1
      simp only at h1 h2 h3 hd e
      subst h1 h2 h3
      unfold Go.Sort.grow World.drewN
      simp only [World.mk.injEq, and_true, true_and]
      exact ⟨e, by omega⟩
theorem up_boxes (w : World) (t : TypeId) (xs ys : Array Value) : UpN w.heap.size w ((w.alloc (.cells xs t)).alloc (.cells ys t)) :=
  ((UpN.refl _ w).alloc (Nat.le_refl _) _).alloc (by simp) _
theorem compare_up (d i d' i' : Int) (w : World) : Calls Tryz.prog 100 #[actV d i, actV d' i'] w fun e w' => e = .returned (.int .i64 (orI (cmpI d d') (cmpI i i'))) ∧ UpN w.heap.size w w' := by
  have C1 := Lib.hid (fun w => cmpc_any d d' w)
  have C2 := Lib.hid (fun w => cmpc_any i i' w)
  have C3 := Lib.hid (fun g c B w hr => or2_any (cmpI d d') (cmpI i i') g c B w hr)
  generalize cmpI d d' = x at *
  generalize cmpI i i' = y at *
  unfold actV
  have hB := boxes_new w 48 #[.int .i64 d, .int .i64 i] #[.int .i64 d', .int .i64 i']
  have hU := Lib.hid (up_boxes w 48 #[.int .i64 d, .int .i64 i] #[.int .i64 d', .int .i64 i'])
  have hBH := Lib.hid hB
  clear hB
  go_enter Tryz.func100, Tryz.ntmps100
  go_wp2_with fail
  obtain ⟨hb, hs, h1, h2⟩ := hBH.out
  clear hb hBH
  generalize (w.alloc (.cells #[.int .i64 d, .int .i64 i] 48)).alloc (.cells #[.int .i64 d', .int .i64 i'] 48) = W at *
  have c0 : W.cell? ⟨w.heap.size, 0, none⟩ = some (.int .i64 d) := by rw [h1.cell]; rfl
  have c1 : W.cell? ⟨w.heap.size, 1, none⟩ = some (.int .i64 i) := by rw [h1.cell]; rfl
  have c2 : W.cell? ⟨w.heap.size + 1, 0, none⟩ = some (.int .i64 d') := by rw [h2.cell]; rfl
  have c3 : W.cell? ⟨w.heap.size + 1, 1, none⟩ = some (.int .i64 i') := by rw [h2.cell]; rfl
  go_still_tail 10, (by kernel_rfl)
  still_call (stillL (C1.out _))
  repeat still_step
  still_call (stillL (C2.out _))
  repeat still_step
  refine wpStill_nil ?_
  change wpList _ _ _ _ _ W.drew
  clear c0 c1 c2 c3 h1 h2
  have hBl2 := Lib.hid (hU.out.drew)
  clear hU
  generalize W.drew = W2 at *
  go_wp2_with fail
  refine (C3.out W2.heap.size 2 _ _ (Rd.fresh _ _ _ 2 rfl)).mono ?_; rintro e w3 ⟨rfl, rfl⟩
  go_wp2
  go_ret
  exact ⟨rfl, hBl2.out.alloc hBl2.out.1.size _⟩
/-- Two boxed dots, as cells. -/
def TwoUp (n : Nat) (d i s d' i' s' : Int) (w W : World) : Prop :=
  UpN n w W ∧ n + 2 ≤ W.heap.size ∧ W.cell? ⟨n, 0, none⟩ = some (.int .i64 d) ∧ W.cell? ⟨n, 1, none⟩ = some (.int .i64 i) ∧ W.cell? ⟨n, 2, none⟩ = some (.int .i64 s) ∧
    W.cell? ⟨n + 1, 0, none⟩ = some (.int .i64 d') ∧ W.cell? ⟨n + 1, 1, none⟩ = some (.int .i64 i') ∧ W.cell? ⟨n + 1, 2, none⟩ = some (.int .i64 s')
theorem TwoUp.step {n : Nat} {d i s d' i' s' : Int} {w W W' : World} (h : TwoUp n d i s d' i' s' w W) (b : UpN W.heap.size W W') : TwoUp n d i s d' i' s' w W' := by
  obtain ⟨h0, h1, c0, c1, c2, c3, c4, c5⟩ := h
  have hb := b.1.size
  refine ⟨h0.trans (b.le (by omega)), by omega, ?_, ?_, ?_, ?_, ?_, ?_⟩
  all_goals
    rw [b.1.cell (by simp only; omega)]
    assumption
theorem TwoUp.new (w : World) (d i s d' i' s' : Int) (t : TypeId) : TwoUp w.heap.size d i s d' i' s' w ((w.alloc (.cells #[.int .i64 d, .int .i64 i, .int .i64 s] t)).alloc (.cells #[.int .i64 d', .int .i64 i', .int .i64 s'] t)) := by
  obtain ⟨h0, h1, h2, h3⟩ := boxes_new w t #[.int .i64 d, .int .i64 i, .int .i64 s] #[.int .i64 d', .int .i64 i', .int .i64 s']
  refine ⟨up_boxes _ _ _ _, by omega, ?_, ?_, ?_, ?_, ?_, ?_⟩
  all_goals first | (rw [h2.cell]; rfl) | (rw [h3.cell]; rfl)
theorem order_up (d i s d' i' s' : Int) (w : World) : Calls Tryz.prog 117 #[dotV d i s, dotV d' i' s'] w fun e w' => e = .returned (.int .i64 (ordI d i s d' i' s')) ∧ UpN w.heap.size w w' := by
  have C1 := Lib.hid (fun n W (h : TwoUp n d i s d' i' s' w W) => (compare_up d i d' i' W).mono fun e w' (h' : e = _ ∧ UpN W.heap.size W w') => And.intro h'.1 (h.step h'.2))
  have C2 := Lib.hid (fun w => cmpc_any s s' w)
  have C3 := Lib.hid (fun g c B w hr => or2_any (orI (cmpI d d') (cmpI i i')) (cmpI s s') g c B w hr)
  unfold ordI
  generalize orI (cmpI d d') (cmpI i i') = x at *
  generalize cmpI s s' = y at *
  unfold actV at C1
  unfold dotV
  have hB := Lib.hid (TwoUp.new w d i s d' i' s' 50)
  go_enter Tryz.func117, Tryz.ntmps117
  go_wp2_with fail
  have hT := hB.out
  clear hB
  generalize (w.alloc (.cells #[.int .i64 d, .int .i64 i, .int .i64 s] 50)).alloc (.cells #[.int .i64 d', .int .i64 i', .int .i64 s'] 50) = W at *
  generalize hn : w.heap.size = n at *
  obtain ⟨h0, h1, c0, c1, c2, c3, c4, c5⟩ := hT
  go_region_held3 (fun W => UpN n w W ∧ n + 2 ≤ W.heap.size ∧ W.cell? ⟨n, 0, none⟩ = some (.int .i64 d) ∧ W.cell? ⟨n, 1, none⟩ = some (.int .i64 i) ∧ W.cell? ⟨n, 2, none⟩ = some (.int .i64 s) ∧
    W.cell? ⟨n + 1, 0, none⟩ = some (.int .i64 d') ∧ W.cell? ⟨n + 1, 1, none⟩ = some (.int .i64 i') ∧ W.cell? ⟨n + 1, 2, none⟩ = some (.int .i64 s')) (first | assumption | exact ⟨by assumption, by assumption, by assumption, by assumption, by assumption, by assumption, by assumption, by assumption⟩ | exact TwoUp.step ⟨by assumption, by assumption, by assumption, by assumption, by assumption, by assumption, by assumption, by assumption⟩ (UpN.alloc (UpN.refl _ _) (Nat.le_refl _) _) | exact TwoUp.step ⟨by assumption, by assumption, by assumption, by assumption, by assumption, by assumption, by assumption, by assumption⟩ (UpN.drew (UpN.refl _ _))) ((first | (go_at_call 100; refine (C1.out n _ (by first | assumption | exact ⟨by assumption, by assumption, by assumption, by assumption, by assumption, by assumption, by assumption, by assumption⟩)).mono ?_; rintro e w1 ⟨rfl, s0, s1, s2, s3, s4, s5, s6, s7⟩) | (go_at_call 131; refine (C2.out _).mono ?_; rintro e w1 ⟨rfl, rfl⟩) | (go_at_call 128; refine (C3.out _ _ _ _ (Rd.fresh _ _ _ 2 rfl)).mono ?_; rintro e w1 ⟨rfl, rfl⟩)))
  refine (by assumption : ∀ (a : Act) (w : World), _ → _) _ _ ?_
  go_wp2
  go_ret
  have hz := (by assumption : UpN n w _ ∧ n + 2 ≤ _ ∧ _)
  exact ⟨rfl, hn ▸ hz.1⟩
end Go.Proofs.YtpakmeegldgjmaaGreat
/- A row of k cells an element that the call has built, sorted: between the words of append and of the sort. -/
namespace Go.Proofs.YtpakmeegldgjmaaGreat
open Go.RowKit Go.Sort
set_option linter.unusedVariables false

theorem flatK_list {α : Type} [Inhabited α] (enc : α → List Value) (k : Nat) (hk : ∀ x, (enc x).length = k) (l : List α) : (flatK enc k l.toArray).toList = l.flatMap enc := by
  apply List.ext_getElem?
  intro t
  rw [flatMap_at enc k hk]
  by_cases h : t < l.length * k
  · have h0 : 0 < k := by
      rcases Nat.eq_zero_or_pos k with h' | h'
      · subst h'; simp at h
      · exact h'
    have h1 : t / k < l.length := (Nat.div_lt_iff_lt_mul h0).2 h
    have h2 : t % k < (enc l[t / k]).length := by rw [hk]; exact Nat.mod_lt _ h0
    rw [Array.getElem?_toList, List.getElem?_eq_getElem h1, Option.bind_some, List.getElem?_eq_getElem h2]
    have hs : t < (flatK enc k l.toArray).size := by rw [size_flatK]; simpa using h
    rw [Array.getElem?_eq_getElem hs]
    have := get_flatK enc k l.toArray t (by simpa using h)
    rw [getElem!_pos (flatK enc k l.toArray) t hs] at this
    rw [this]
    congr 1
    have e : l.toArray[t / k]! = l[t / k] := by
      rw [getElem!_pos l.toArray (t / k) (by simpa using h1)]
      simp
    rw [e, getElem!_pos (enc l[t / k]) (t % k) h2]
  · rw [List.getElem?_eq_none (by simpa using h)]
    have h1 : l[t / k]? = none ∨ k = 0 := by
      rcases Nat.eq_zero_or_pos k with h' | h'
      · exact .inr h'
      · exact .inl (List.getElem?_eq_none ((Nat.le_div_iff_mul_le h').2 (by omega)))
    rcases h1 with h1 | h1
    · rw [h1]; rfl
    · subst h1
      cases l[t / 0]? with
      | none => rfl
      | some x =>
        have := List.eq_nil_of_length_eq_zero (hk x)
        simp [this]
/-- What the sort asks of the row. -/
theorem holdsK_of_row {α : Type} [Inhabited α] (enc : α → List Value) (k : Nat) (hk : ∀ x, (enc x).length = k) {w : World} {g : Nat} {cur : Array Value} {e : TypeId} {l : List α} (hb : w.heap[g]? = some (.cells cur e (0, 0))) (ht : cur.toList.take (l.length * k) = l.flatMap enc) : HoldsK enc k w g 0 l.toArray := by
  intro j hj
  have hj' : j < l.length * k := by simpa using hj
  refine ⟨?_, by simp [World.frozen?, hb]⟩
  have h1 : (cur.toList.take (l.length * k))[j]? = (flatK enc k l.toArray).toList[j]? := by rw [ht, flatK_list enc k hk]
  rw [List.getElem?_take_of_lt hj', Array.getElem?_toList, Array.getElem?_toList, Array.getElem?_eq_getElem hj] at h1
  have h2 : w.cell? ⟨g, 0 + j, none⟩ = cur[0 + j]? := by simp [World.cell?, hb]
  rw [h2, Nat.zero_add, h1, getElem!_pos (flatK enc k l.toArray) j hj]
  rfl
theorem heap_sortedK {w : World} {g n : Nat} {os : Array Obj} {cur : Array Value} {e : TypeId} {fr : Nat × Nat} {α : Type} [Inhabited α] (enc : α → List Value) (k : Nat) (d : Array α) (hb : w.heap[g]? = some (.cells cur e fr)) :
    (sortWorldK enc k w g 0 n d os).heap[g]? = some (.cells (putCells id 0 (flatK enc k d) cur) e fr) := by
  have hg : g < w.heap.size := (Array.getElem?_eq_some_iff.1 hb).1
  unfold sortWorldK putRowK
  rw [heap_grow_old _ _ (by simpa [putRow, mapBlock] using hg)]
  simp [putRow, mapBlock, Sort.ahead, Array.getElem?_modify, hb, onCells]
theorem grownBy_sortedK {w : World} {g n : Nat} {os : Array Obj} {α : Type} [Inhabited α] (enc : α → List Value) (k : Nat) (d : Array α) : w.grownBy (sortWorldK enc k w g 0 n d os) (some g) := by
  unfold sortWorldK putRowK
  refine ⟨rfl, rfl, rfl, by simp [putRow, mapBlock], fun j hj hne => ?_⟩
  rw [heap_grow_old _ _ (by simpa [putRow, mapBlock] using hj)]
  have : g ≠ j := fun e => hne (by rw [e])
  simp [putRow, mapBlock, Sort.ahead, Array.getElem?_modify, this]
theorem ownsRow_sortedK {w : World} {base g cap n : Nat} {e : TypeId} {os : Array Obj} {cur : Array Value} {α : Type} [Inhabited α] (enc : α → List Value) (k : Nat) (hk : ∀ x, (enc x).length = k) {ss ts : List α} (hl : ts.length = ss.length) (hbase : base ≤ g) (hb : w.heap[g]? = some (.cells cur e (0, 0)))
    (h1 : ss.length ≤ cap) (h2 : cap ≤ maxLen) (h3 : cur.size = cap * k) :
    (sortWorldK enc k w g 0 n ts.toArray os).ownsRow base e k (.slice (some ⟨g, 0, none⟩) ss.length cap) ss.length (ts.flatMap enc) := by
  refine ⟨by rw [flatMap_len enc k hk, hl], .inr ⟨g, cap, _, rfl, hbase, heap_sortedK enc k ts.toArray hb, h1, h2, by simp [putCells, h3], ?_⟩⟩
  have hle : ss.length * k ≤ cur.size := by rw [h3]; exact Nat.mul_le_mul_right k h1
  apply List.ext_getElem?
  intro j
  by_cases hj : j < ss.length * k
  · have hs : (flatK enc k ts.toArray).size = ss.length * k := by rw [size_flatK]; simp [hl]
    rw [List.getElem?_take_of_lt hj, Array.getElem?_toList, ← flatK_list enc k hk, Array.getElem?_toList]
    simp [putCells, hs, hj, show j < cur.size by omega]
  · rw [List.getElem?_take_eq_none (by omega), List.getElem?_eq_none (by rw [flatMap_len enc k hk, hl]; omega)]
end Go.Proofs.YtpakmeegldgjmaaGreat
/- slices.SortFunc at dots (the shelf's contract, laid in plain words by a program of mine), and SortedFunc of maps.Keys. -/
namespace Go.Proofs.YtpakmeegldgjmaaGreat
open Go.RowKit Go.Sort Go.Shelf
set_option linter.unusedVariables false
set_option maxRecDepth 100000

def sortDot_ren : Go.Shelf.Ren := ⟨fun | 6 => 145 | 15 => 94 | 14 => 167 | 28 => 126 | 29 => 127 | 20 => 177 | 21 => 178 | 22 => 179 | 23 => 180 | 24 => 181 | 25 => 182 | 26 => 183 | 27 => 184 | 46 => 186 | 47 => 148 | 48 => 149 | 49 => 187 | 50 => 188 | 57 => 189 | n => n, fun | 22 => 57 | 24 => 50 | 25 => 176 | 3 => 3 | 39 => 128 | 0 => 0 | 53 => 77 | 55 => 67 | 4 => 4 | 46 => 179 | 45 => 178 | 50 => 150 | 5 => 5 | 9 => 9 | 66 => 198 | 70 => 202 | 76 => 211 | 77 => 212 | n => n, fun | n => n⟩
theorem sortDot : Go.Proofs.SlLaysF0.n6 Tryz.prog sortDot_ren := {
  mixed := by kernel_rfl
  f6 := ⟨Tryz.f145.name, by decide, Tryz.func145.trans (congrArg some (by kernel_rfl))⟩
  f14 := ⟨Tryz.f167.name, by decide, Tryz.func167.trans (congrArg some (by kernel_rfl))⟩
  f15 := Tryz.func94.trans (congrArg some (by kernel_rfl))
  f20 := ⟨Tryz.f177.name, by decide, Tryz.func177.trans (congrArg some (by kernel_rfl))⟩
  f21 := ⟨Tryz.f178.name, by decide, Tryz.func178.trans (congrArg some (by kernel_rfl))⟩
  f22 := ⟨Tryz.f179.name, by decide, Tryz.func179.trans (congrArg some (by kernel_rfl))⟩
  f23 := ⟨Tryz.f180.name, by decide, Tryz.func180.trans (congrArg some (by kernel_rfl))⟩
  f24 := ⟨Tryz.f181.name, by decide, Tryz.func181.trans (congrArg some (by kernel_rfl))⟩
  f25 := ⟨Tryz.f182.name, by decide, Tryz.func182.trans (congrArg some (by kernel_rfl))⟩
  f26 := ⟨Tryz.f183.name, by decide, Tryz.func183.trans (congrArg some (by kernel_rfl))⟩
  f27 := ⟨Tryz.f184.name, by decide, Tryz.func184.trans (congrArg some (by kernel_rfl))⟩
  f28 := Tryz.func126.trans (congrArg some (by kernel_rfl))
  f29 := Tryz.func127.trans (congrArg some (by kernel_rfl))
  f46 := ⟨Tryz.f186.name, by decide, Tryz.func186.trans (congrArg some (by kernel_rfl))⟩
  f47 := Tryz.func148.trans (congrArg some (by kernel_rfl))
  f48 := Tryz.func149.trans (congrArg some (by kernel_rfl))
  f49 := ⟨Tryz.f187.name, by decide, Tryz.func187.trans (congrArg some (by kernel_rfl))⟩
  f50 := ⟨Tryz.f188.name, by decide, Tryz.func188.trans (congrArg some (by kernel_rfl))⟩
  f57 := ⟨Tryz.f189.name, by decide, Tryz.func189.trans (congrArg some (by kernel_rfl))⟩
  t0 := Tryz.underlying0
  a0 := Tryz.isAgg0
  z0 := Tryz.sizeOf0
  v0 := Tryz.zeroValue0
  t3 := Tryz.underlying3
  a3 := Tryz.isAgg3
  z3 := Tryz.sizeOf3
  v3 := Tryz.zeroValue3
  t4 := Tryz.underlying4
  a4 := Tryz.isAgg4
  z4 := Tryz.sizeOf4
  v4 := Tryz.zeroValue4
  t5 := Tryz.underlying5
  a5 := Tryz.isAgg5
  z5 := Tryz.sizeOf5
  v5 := Tryz.zeroValue5
  t9 := Tryz.underlying9
  a9 := Tryz.isAgg9
  z9 := Tryz.sizeOf9
  v9 := Tryz.zeroValue9
  t22 := Tryz.underlying57
  a22 := Tryz.isAgg57
  z22 := Tryz.sizeOf57
  v22 := Tryz.zeroValue57
  t25 := Tryz.underlying176
  a25 := Tryz.isAgg176
  z25 := Tryz.sizeOf176
  v25 := Tryz.zeroValue176
  t39 := Tryz.underlying128
  a39 := Tryz.isAgg128
  z39 := Tryz.sizeOf128
  v39 := Tryz.zeroValue128
  t45 := Tryz.underlying178
  a45 := Tryz.isAgg178
  z45 := Tryz.sizeOf178
  v45 := Tryz.zeroValue178
  t46 := Tryz.underlying179
  a46 := Tryz.isAgg179
  z46 := Tryz.sizeOf179
  v46 := Tryz.zeroValue179
  t50 := Tryz.underlying150
  a50 := Tryz.isAgg150
  z50 := Tryz.sizeOf150
  v50 := Tryz.zeroValue150
  t53 := Tryz.underlying77
  a53 := Tryz.isAgg77
  z53 := Tryz.sizeOf77
  v53 := Tryz.zeroValue77
  t55 := Tryz.underlying67
  a55 := Tryz.isAgg67
  z55 := Tryz.sizeOf67
  v55 := Tryz.zeroValue67
  t66 := Tryz.underlying198
  a66 := Tryz.isAgg198
  z66 := Tryz.sizeOf198
  v66 := Tryz.zeroValue198
  t70 := Tryz.underlying202
  a70 := Tryz.isAgg202
  z70 := Tryz.sizeOf202
  v70 := Tryz.zeroValue202
  t76 := Tryz.underlying211
  a76 := Tryz.isAgg211
  z76 := Tryz.sizeOf211
  v76 := Tryz.zeroValue211
  t77 := Tryz.underlying212
  a77 := Tryz.isAgg212
  z77 := Tryz.sizeOf212
  v77 := Tryz.zeroValue212 }


def cfdot (x y : Dt) : Int := ordI x.1.1 x.1.2 x.2 y.1.1 y.1.2 y.2
theorem ltOf_dot (x y : Dt) : ltOf cfdot x y = dLt x y := by
  unfold ltOf cfdot ordI orI cmpI dLt
  rw [decide_eq_decide]
  repeat' split
  all_goals first | omega | (simp at *; omega)
theorem swo_dot : SWO (ltOf cfdot) where
  irrefl x := by rw [ltOf_dot]; exact dLt_irrefl x
  trans x y z h k := by rw [ltOf_dot] at *; exact dLt_trans h k
  ntrans x y z h k := by
    rw [ltOf_dot] at *
    simp only [dLt, decide_eq_false_iff_not] at *
    omega
theorem clos_dot (x y : Dt) (W : World) : Calls Tryz.prog 116 #[.agg (dtC x).toArray, .agg (dtC y).toArray] W fun e w' => e = .returned (.int .i64 (cfdot x y)) ∧ UpN W.heap.size W w' := by
  obtain ⟨⟨d, i⟩, s⟩ := x
  obtain ⟨⟨d', i'⟩, s'⟩ := y
  have C1 := Lib.hid (fun w => order_up d i s d' i' s' w)
  unfold cfdot
  simp only
  generalize ordI d i s d' i' s' = z at *
  unfold dotV at C1
  have hU := Lib.hid (up_boxes W 50 #[.int .i64 d, .int .i64 i, .int .i64 s] #[.int .i64 d', .int .i64 i', .int .i64 s'])
  change Calls _ _ #[.agg #[.int .i64 d, .int .i64 i, .int .i64 s], .agg #[.int .i64 d', .int .i64 i', .int .i64 s']] _ _
  go_enter Tryz.func116, Tryz.ntmps116
  go_wp2_with fail
  refine (C1.out _).mono ?_; rintro e w1 ⟨rfl, b1⟩
  go_wp2
  go_ret
  exact ⟨rfl, hU.out.trans (b1.le (by simp; omega))⟩
theorem cmpLays_dot (blk off size : Nat) (w : World) : CmpLays Tryz.prog 116 #[] dtC 3 cfdot blk off size w :=
  fun _ _ _ _ x y => (clos_dot x y _).mono fun _ _ ⟨he, hu⟩ => ⟨he, hu.grow⟩
theorem sortF_dot (blk cap : Nat) (ss L : List Dt) (w : World) (hH : HoldsK dtC 3 w blk 0 ss.toArray) (hblk : blk < w.heap.size) (hsz : ss.length < 4611686018427387904) (hs : L.Pairwise fun x y => dLt x y = true) (hp : ss.Perm L) :
    Calls Tryz.prog 145 #[.slice (some ⟨blk, 0, none⟩) ss.length cap, .func (.func 116) #[] #[]] w fun e w' => e = .returned (.tuple #[]) ∧ ∃ n os, w' = sortWorldK dtC 3 w blk 0 n L.toArray os := by
  have eg : ∀ args w, (callFunc 116 args).run Tryz.prog w = .ok (.enter 116 args) w := enters_of Tryz.func116 (by kernel_rfl) rfl
  have h := AnyQ.slices_SortFunc_total sortDot 3 Tryz.isAgg50 Tryz.sizeOf50 dtC (fun _ => rfl) (fun x v hv => by simp [dtC] at hv; rcases hv with rfl | rfl | rfl <;> rfl) cfdot swo_dot 116 #[] blk 0 cap ss.toArray w eg (cmpLays_dot blk 0 _ w) hH hblk (by simpa using hsz)
    (fun x y h k => by rw [ltOf_dot] at *; exact dLt_tri h k)
  have e : (ss.toArray.toList.mergeSort fun x y => !(ltOf cfdot) y x) = L := by
    have e1 : (fun x y => !(ltOf cfdot) y x) = fun x y => !dLt y x := by funext x y; rw [ltOf_dot]
    rw [e1]
    exact pw_sort dLt_irrefl (fun _ _ _ => dLt_trans) (fun _ _ => dLt_tri) hs hp
  rw [e] at h
  change Calls Tryz.prog 145 _ _ _ at h
  simpa using h
theorem sortN_dot (p : Option Addr) (cap : Nat) (fv : Value) (w : World) : Calls Tryz.prog 145 #[.slice p 0 cap, fv] w fun e w' => e = .returned (.tuple #[]) ∧ w' = w :=
  AnyF.slices_SortFunc_none sortDot p cap fv w
/-- slices.Collect(maps.Keys(m)), the iterator made. -/
theorem collectK_dot (Bm b : Nat) (M : List (Dt × Int)) (w : World) (hBm : Bm < w.heap.size) (hm : w.cell? ⟨Bm, 0, none⟩ = some (.map (some b))) (hown : MapIs Tryz.prog 50 3 dtV dtOk w b M) (hN : M.length ≤ 1000000) :
    Calls Tryz.prog 144 #[.func (.func 146) #[] #[.pointer (some ⟨Bm, 0, none⟩)]] w fun e w' => ∃ (v : Value) (ss : List Dt), e = .returned v ∧ ss.Perm (M.map (·.1)) ∧ w'.ownsRow w.heap.size 50 3 v ss.length (ss.flatMap dtC) ∧ Below w.heap.size w w' := by
  have eg : ∀ args w, (callFunc 146 args).run Tryz.prog w = .ok (.enter 146 args) w := enters_of Tryz.func146 (by kernel_rfl) rfl
  refine (callsIn_wide (n := 9)).1 ((collect_dot Fence.wide 9 trivial trivial rfl (by omega) 146 #[.pointer (some ⟨Bm, 0, none⟩)] trivial eg _ _ M.length (by simp only [maxLen]; omega) (by omega) w (keysS_dot Fence.wide 7 trivial rfl (by omega) Bm b M w hBm hm hown)).mono ?_)
  rintro e w' ⟨v, ss, rfl, hS, _, hrow, hb⟩
  exact ⟨v, ss, rfl, hS, hrow, hb⟩
/-- slices.SortedFunc(maps.Keys(m), cmp): the keys in order. -/
theorem sortedK_dot (Bm b : Nat) (M : List (Dt × Int)) (L : List Dt) (w : World) (hBm : Bm < w.heap.size) (hm : w.cell? ⟨Bm, 0, none⟩ = some (.map (some b))) (hown : MapIs Tryz.prog 50 3 dtV dtOk w b M) (hN : M.length ≤ 1000000)
    (hs : L.Pairwise fun x y => dLt x y = true) (hp : (M.map (·.1)).Perm L) :
    Calls Tryz.prog 114 #[.func (.func 146) #[] #[.pointer (some ⟨Bm, 0, none⟩)], .func (.func 116) #[] #[]] w fun e w' => ∃ A c, e = .returned (.slice A L.length c) ∧ Own w' w.heap.size 50 3 A L.length c (L.flatMap dtC) ∧ Below w.heap.size w w' := by
  have C1 := Lib.hid (collectK_dot Bm b M w hBm hm hown hN)
  have hlen : M.length = L.length := by have := hp.length_eq; simpa using this
  have HL := Lib.hid hlen
  have HN := Lib.hid hN
  have HP := Lib.hid hp
  clear hlen hN hp
  go_enter Tryz.func114, Tryz.ntmps114
  go_wp2_with (go_at_call 144; refine C1.out.mono ?_; rintro e W ⟨v, ss, rfl, hS, hrow, hb⟩)
  have hp2 : ss.Perm L := hS.trans HP.out
  have hl2 : ss.length = L.length := hp2.length_eq
  rcases hrow.2 with ⟨rfl, hz⟩ | ⟨gb, cap, cur, rfl, hbase, hgb, r1, r2, r3, r4⟩
  · have hss : ss = [] := List.eq_nil_of_length_eq_zero hz
    subst hss
    have hL : L = [] := List.eq_nil_of_length_eq_zero (by simpa using hl2.symm)
    subst hL
    have S1 := Lib.hid (sortN_dot none 0 (.func (.func 116) #[] #[]) W)
    go_wp2_with (go_at_call 145; refine S1.out.mono ?_; rintro e w' ⟨rfl, rfl⟩)
    go_ret
    exact ⟨none, 0, rfl, Own.nil_, hb⟩
  · have hH : HoldsK dtC 3 W gb 0 ss.toArray := holdsK_of_row dtC 3 (fun _ => rfl) hgb r4
    have hgl : gb < W.heap.size := (Array.getElem?_eq_some_iff.1 hgb).1
    have hlen2 : ss.length < 4611686018427387904 := by have := HL.out; have := HN.out; omega
    have S1 := Lib.hid (sortF_dot gb cap ss L W hH hgl hlen2 hs hp2)
    have HR := Lib.hid (fun (n : Nat) (os : Array Obj) => ownsRow_sortedK (n := n) (os := os) dtC 3 (fun _ => rfl) hl2.symm hbase hgb r1 r2 r3)
    have HB := Lib.hid (fun (n : Nat) (os : Array Obj) => hb.grown (grownBy_sortedK (n := n) (os := os) dtC 3 L.toArray) hb.size (fun j hj => by cases hj; exact hbase))
    have HC := Lib.hid (And.intro r1 r2)
    have HLL := Lib.hid hl2
    clear hrow hH hgb r1 r2 r3 r4 hp2 hl2 hlen2 hs
    go_wp2_with (go_at_call 145; refine S1.out.mono ?_; rintro e w' ⟨rfl, n, os, rfl⟩)
    go_ret
    have hr := HR.out n os
    have hll := HLL.out
    rw [hll] at hr ⊢
    refine ⟨some ⟨gb, 0, none⟩, cap, rfl, ⟨hr, ?_, ?_⟩, HB.out n os⟩
    · have := HC.out.1; omega
    · exact HC.out.2
end Go.Proofs.YtpakmeegldgjmaaGreat
/- Merged: M7, M8, M9. -/
/- 'm[k]++' on a map of whole numbers: the entry taken, its number stored. -/
namespace Go.Proofs.YtpakmeegldgjmaaGreat
open Go.RowKit Go.ChangeMaps
set_option linter.unusedVariables false
set_option maxRecDepth 100000

section
variable {α : Type} {P : Program} {k e : TypeId} {kV : α → Value} {ok : α → Prop} {w : World} {b : Nat} {W : List (α × Int)}
theorem setBlock_at {w : World} {b : Nat} (o : Obj) (h : b < w.heap.size) : (ChangeMaps.setBlock w b o).heap[b]? = some o := by
  simp [ChangeMaps.setBlock, h]
theorem setBlock_grown (w : World) (b : Nat) (o : Obj) : w.grownBy (ChangeMaps.setBlock w b o) (some b) :=
  ⟨rfl, rfl, rfl, by simp [ChangeMaps.setBlock], fun i _ hi => by
    have : b ≠ i := fun e => hi (by rw [e])
    simp [ChangeMaps.setBlock, this]⟩
theorem MapIs.entry [DecidableEq α] (K : KeyT P k kV ok) (KL : WideMaps.KeyLaw P k) (h : MapIs P k e kV ok w b W) {t : TypeId} (ht : P.underlying t = some (.map k e)) (he : P.underlying e = some (.int .i64)) (hz : ∀ u : World, (zeroValue e).run P u = .ok (.int .i64 0) u) (hn : W.length < maxLen) {a : α} (ha : ok a) :
    ∃ (v0 : Value) (st : Nat) (w1 : World), (Instr.mapEntry t (.map (some b)) (kV a)).run P w = .ok (.tuple #[v0, goInt st]) w1 ∧ w.grownBy w1 (some b) ∧ (∃ W1, MapIs P k e kV ok w1 b W1 ∧ mget W1 a = mget W a) ∧
      ∀ (w2 : World) (n : Int), w2.heap[b]? = w1.heap[b]? → (Lit.int .i64 n).wf = true → ∃ w3, (Instr.entryStore t (.map (some b)) (goInt st) (.int .i64 n)).run P w2 = .ok () w3 ∧ w2.grownBy w3 (some b) ∧
        ∀ W' : List (α × Int), W'.Perm ((a, n) :: W.filter fun p => decide (p.1 ≠ a)) → MapIs P k e kV ok w3 b W' := by
  obtain ⟨es, clock, hb, F, hs, hD⟩ := h.1
  have hlt : b < w.heap.size := h.lt
  obtain ⟨v0, st, es1, clock1, hrun, _, hst⟩ := WideElems.entry_then_store KL ht hz hb F (K.klit ha)
  refine ⟨v0, st, _, hrun, setBlock_grown _ _ _, ?_, fun w2 n hw2 hwf => ?_⟩
  · rcases KL.find w (K.klit ha) es.toList F.keys with ⟨h1, h2⟩ | ⟨j, e0, h1, h2, h3⟩
    · have r1 : (Instr.mapEntry t (.map (some b)) (kV a)).run P w = .ok (.tuple #[.int .i64 0, goInt clock]) (ChangeMaps.setBlock w b (.map (es.push ⟨kV a, .int .i64 0, clock⟩) (clock + 1))) := by
        simp [Instr.mapEntry, run_underlying ht, MapKept.run_getObj_map hb, KL.check w false (K.klit ha), h1, hz, MapKept.run_setObj_map _ hb, Result.andThen, ChangeMaps.setBlock]
      have r2 : (Instr.mapUpdate t (.map (some b)) (kV a) (.int .i64 0)).run P w = .ok () (ChangeMaps.setBlock w b (.map (es.push ⟨kV a, .int .i64 0, clock⟩) (clock + 1))) := by
        simp [Instr.mapUpdate, run_underlying ht, MapKept.run_getObj_map hb, KL.check w false (K.klit ha), h1, MapKept.run_setObj_map _ hb, Result.andThen, ChangeMaps.setBlock]
      obtain ⟨w', r3, hm, _⟩ := h.update K ht he hn ha (n := 0) (by decide) (List.Perm.refl _)
      rw [r2] at r3
      rw [hrun] at r1
      injection r1 with _ r1
      injection r3 with _ r3
      rw [r1, r3]
      refine ⟨_, hm, ?_⟩
      have hl := h.lookup K ht he (hz w) ha
      have hl2 : (Instr.lookup t (.map (some b)) (kV a) false).run P w = .ok (.int .i64 0) w := by
        simp [Instr.lookup, run_underlying ht, MapKept.run_getObj_map hb, KL.check w es.isEmpty (K.klit ha), h1, hz, Result.andThen]
      rw [hl2] at hl
      injection hl with hl
      injection hl with _ hl
      rw [← hl]
      simp [mget]
    · have hj : es[j]? = some e0 := by simpa using h2
      have hsame : es.modify j (fun e => { e with key := kV a }) = es := by
        apply Array.ext'
        rw [Array.toList_modify, modify_eq_set _ _ _ _ h2]
        have : ({ e0 with key := kV a } : MapEntry) = e0 := by rw [← h3]
        rw [this]
        exact WideElems.set_self _ _ _ h2
      have r1 : (Instr.mapEntry t (.map (some b)) (kV a)).run P w = .ok (.tuple #[e0.val, goInt e0.born]) (ChangeMaps.setBlock w b (.map es clock)) := by
        simp [Instr.mapEntry, run_underlying ht, MapKept.run_getObj_map hb, KL.check w false (K.klit ha), h1, hj, h3, KL.stays w (K.klit ha), hsame, MapKept.run_setObj_map _ hb, Result.andThen, ChangeMaps.setBlock]
      rw [hrun] at r1
      injection r1 with _ r1
      rw [r1]
      exact ⟨W, h.block (by rw [setBlock_at _ hlt, hb]), rfl⟩
  · obtain ⟨es', clock', r1, r2⟩ := hst w2 (.int .i64 n) (hw2.trans (setBlock_at _ hlt))
    refine ⟨_, r1, setBlock_grown _ _ _, fun W' hp => ?_⟩
    obtain ⟨w', r3, hm, _⟩ := h.update K ht he hn ha hwf hp
    rw [r2] at r3
    injection r3 with _ r3
    subst r3
    have hlt2 : b < w2.heap.size := by
      have := hw2.trans (setBlock_at (.map es1 clock1) hlt)
      exact (Array.getElem?_eq_some_iff.1 this).1
    exact hm.block (by rw [setBlock_at _ hlt2, setBlock_at _ hlt])
end
theorem dot_law : WideMaps.KeyLaw Tryz.prog 50 := deep_law_laid laidOutK (m := 3) (by omega) (of_decide_eq_true (by kernel_rfl)) (by kernel_rfl) dot_wide
end Go.Proofs.YtpakmeegldgjmaaGreat
/- Layer 16 (dot): Sort. -/
namespace Go.Proofs.YtpakmeegldgjmaaGreat
open Go.RowKit
set_option linter.unusedVariables false
set_option maxRecDepth 100000

/-- The keys of a map that counts are the dots that came. -/
def Cnt (L : List Dt) (j : Nat) (W : List (Dt × Int)) : Prop := W.length ≤ j ∧ (∀ x, x ∈ W.map (·.1) ↔ x ∈ L.take j) ∧ ∀ p ∈ W, 0 ≤ p.2 ∧ p.2 ≤ j
theorem Cnt.get {L : List Dt} {j : Nat} {W : List (Dt × Int)} (h : Cnt L j W) (x : Dt) : 0 ≤ mget W x ∧ mget W x ≤ j := by
  induction W with
  | nil => exact ⟨Int.le_refl 0, by show (0 : Int) ≤ j; omega⟩
  | cons p r ih =>
    unfold mget
    split
    · exact h.2.2 p (List.mem_cons_self ..)
    · have hr : ∀ q ∈ r, 0 ≤ q.2 ∧ q.2 ≤ (j : Int) := fun q hq => h.2.2 q (List.mem_cons_of_mem _ hq)
      clear ih h
      induction r with
      | nil => exact ⟨Int.le_refl 0, by show (0 : Int) ≤ j; omega⟩
      | cons q s ih =>
        unfold mget
        split
        · exact hr q (List.mem_cons_self ..)
        · exact ih fun q hq => hr q (List.mem_cons_of_mem _ hq)
theorem Cnt.step {L : List Dt} {j : Nat} {W : List (Dt × Int)} {x : Dt} (h : Cnt L j W) (hx : L[j]? = some x) : Cnt L (j + 1) ((x, mget W x + 1) :: W.filter fun p => decide (p.1 ≠ x)) := by
  have hg := h.get x
  refine ⟨?_, fun y => ?_, fun p hp => ?_⟩
  · have := List.length_filter_le (fun p : Dt × Int => decide (p.1 ≠ x)) W
    have := h.1
    simp only [List.length_cons]; omega
  · rw [List.take_add_one, hx, List.mem_append, ← h.2.1]
    rw [Option.toList_some, List.mem_singleton, List.map_cons, List.mem_cons, List.mem_map, List.mem_map]
    constructor
    · rintro (e | ⟨p, hp, e⟩)
      · exact .inr e
      · exact .inl ⟨p, (List.mem_filter.1 hp).1, e⟩
    · rintro (⟨p, hp, e⟩ | e)
      · by_cases hpx : p.1 = x
        · exact .inl (e.symm.trans hpx)
        · exact .inr ⟨p, List.mem_filter.2 ⟨hp, by simpa using hpx⟩, e⟩
      · exact .inl e
  · rcases List.mem_cons.1 hp with rfl | hp
    · simp only; omega
    · have := h.2.2 p (List.mem_filter.1 hp).1
      omega
theorem nodup_perm {α : Type} {l m : List α} (hl : l.Nodup) (hm : m.Nodup) (h : ∀ x, x ∈ l ↔ x ∈ m) : l.Perm m := (List.perm_ext_iff_of_nodup hl hm).2 h
theorem sort_any (w : World) (B : Nat) (A : Option Addr) (c : Nat) (L : List Dt) (hr : Ds w B A L) (hB : B ≤ w.heap.size) (hwf : ∀ x ∈ L, dtOk x) (hn : L.length ≤ 1000000) :
    Calls Tryz.prog 91 #[.slice A L.length c] w fun e w' => ∃ A' c', e = .returned (.slice A' (dsort L).length c') ∧ Own w' w.heap.size 50 3 A' (dsort L).length c' (dts (dsort L)) ∧ Below w.heap.size w w' := by
  have hLn : L.length = L.length := rfl
  generalize hlen : L.length = n at *
  have HL := Lib.hid hlen
  have HW := Lib.hid hwf
  have HR := Lib.hid hr
  clear hlen hLn hwf hr
  generalize hN : w.heap.size = N at *
  have E0 := Lib.hid (hN ▸ MapIs.made w : MapIs Tryz.prog 50 3 dtV dtOk (w.alloc (.map #[] 0)) N [])
  have B0 := Lib.hid ((Below.refl N w).alloc (by omega) (.map #[] 0))
  have mk : (Instr.makeMap 91 none).run Tryz.prog w = .ok (.map (some N)) (w.alloc (.map #[] 0)) := hN ▸ run_makeMap _ _
  go_enter Tryz.func91, Tryz.ntmps91
  go_wp2_with fail
  clear mk
  generalize w.alloc (.map #[] 0) = W0 at *
  go_loopw [9] (fun i wr => ∃ (j : Nat) (W : List (Dt × Int)), j ≤ n ∧ i = .int .i64 j ∧ Cnt L j W ∧ MapIs Tryz.prog 50 3 dtV dtOk wr N W ∧ Below N w wr) (fun i _ => n - (intOf i).toNat)
  case atStart => exact ⟨0, [], by omega, rfl, ⟨by simp, by simp, by simp⟩, E0.out, B0.out⟩
  case round =>
    obtain ⟨j, W, hj, rfl, hC, hM, hb⟩ := hrel
    clear E0 B0
    by_cases hlt : j < n
    · obtain ⟨x, hx⟩ : ∃ x, L[j]? = some x := ⟨L[j]'(by have := HL.out; omega), List.getElem?_eq_getElem _⟩
      have okx : dtOk x := HW.out x (List.mem_of_getElem? hx)
      obtain ⟨b0, o0, hA, hb0, c0, c1, c2⟩ := (HR.out.below (hb.mono hB)).at_ hx
      have hg := hC.get x
      have hC2 := Lib.hid (hC.step hx)
      have hWl : W.length < maxLen := by have := hC.1; simp only [maxLen]; omega
      have hNl : N < wr.heap.size := hM.lt
      obtain ⟨⟨d, i⟩, s⟩ := x
      simp only at c0 c1 c2
      have hM4 := hM.alloc (.cells #[.int .i64 d, .int .i64 i, .int .i64 s] 50)
      have hb4 := hb.alloc (show N ≤ wr.heap.size by omega) (.cells #[.int .i64 d, .int .i64 i, .int .i64 s] 50)
      have hW4 := Whole.new wr 50 #[.int .i64 d, .int .i64 i, .int .i64 s]
      have HH := Lib.hid (And.intro hM4 (And.intro hb4 hW4))
      generalize hq : mget W ((d, i), s) = q at *
      have HQ := Lib.hid hq
      have hw1 : IntKind.i64.wrap (q + 1) = q + 1 := by rw [IntKind.wrap_i64]; omega
      clear hM hb hM4 hb4 hW4 hC hq
      subst hA
      go_wp2_with fail
      obtain ⟨hM4, hb4, hW4⟩ := HH.out
      generalize hP : wr.heap.size = P at *
      clear hP HH
      generalize (wr.alloc (.cells #[.int .i64 d, .int .i64 i, .int .i64 s] 50)) = W4 at *
      have b0 : W4.cell? ⟨P, 0, none⟩ = some (.int .i64 d) := by rw [hW4.cell]; rfl
      have b1 : W4.cell? ⟨P, 1, none⟩ = some (.int .i64 i) := by rw [hW4.cell]; rfl
      have b2 : W4.cell? ⟨P, 2, none⟩ = some (.int .i64 s) := by rw [hW4.cell]; rfl
      have hwf : (Lit.int .i64 (q + 1)).wf = true := wf_of (by omega) (by omega)
      obtain ⟨v0, st, w1, q2, g1, ⟨W1, hM1, hq1⟩, hst⟩ := (hM4.drew).entry dot_key dot_law Tryz.underlying91 Tryz.underlying3 Tryz.zeroValue3 hWl okx
      have q1 := (hM4.drew).lookup dot_key Tryz.underlying91 Tryz.underlying3 (Tryz.zeroValue3 _) okx
      have q3 := hM1.lookup dot_key Tryz.underlying91 Tryz.underlying3 (Tryz.zeroValue3 _) okx
      obtain ⟨w3, q4, g3, hM3⟩ := hst w1 (q + 1) rfl hwf
      rw [hq1] at q3
      rw [HQ.out] at q1 q3
      have hN4 : N ≤ W4.heap.size := by have := hb4.size; omega
      have HE := Lib.hid (And.intro (hM3 _ (List.Perm.refl _)) ((hb4.drew.grown g1 hN4 (fun k e => by cases e; exact Nat.le_refl _)).grown g3 (Nat.le_trans hN4 g1.size) (fun k e => by cases e; exact Nat.le_refl _)))
      unfold dtV at q1 q2 q3
      clear hM4 hb4 hW4 hM1 hq1 hst hM3 g1 g3 hwf
      simp only [goInt] at q2 q4
      go_region
      go_wp2
      go_roundw
      case rel => exact ⟨j + 1, _, by omega, by go_num, hC2.out, HE.out.1, HE.out.2⟩
      case measure => simp [intOf]; omega
    · have hj' : j = n := by omega
      subst hj'
      have hk : ∀ x, x ∈ W.map (·.1) ↔ x ∈ dsort L := fun x => by
        rw [hC.2.1, mem_dsort, List.take_of_length_le (by have := HL.out; omega)]
      have hp := nodup_perm hM.2.1 (srt_dsort L).nodup hk
      have hN4 : N ≤ wr.heap.size := by have := hb.size; omega
      have CK := Lib.hid (callsIn_wide.1 (keysC_dot Fence.wide 5 trivial rfl (some N) wr))
      have hc4 : (wr.alloc (.cells #[.map (some N)] 91)).cell? ⟨wr.heap.size, 0, none⟩ = some (.map (some N)) := by rw [(Whole.new wr 91 #[.map (some N)]).cell]; rfl
      have CS := Lib.hid (sortedK_dot wr.heap.size N W (dsort L) (wr.alloc (.cells #[.map (some N)] 91)) (by simp) hc4 (hM.alloc _) (by have := hC.1; omega) (srt_dsort L) hp)
      have hb4 := Lib.hid (hb.alloc hN4 (.cells #[.map (some N)] 91))
      clear hC hM hb hk hp hc4
      go_wp2_with (first
        | (go_at_call 115; refine CK.out.mono ?_; rintro e w1 ⟨rfl, rfl⟩)
        | (go_at_call 114; refine CS.out.mono ?_; rintro e w1 ⟨A', c', rfl, o1, b1⟩))
      go_ret
      exact ⟨A', c', rfl, o1.base_le (by simp; omega), hb4.out.trans (below_of_le b1 (by simp; omega))⟩
end Go.Proofs.YtpakmeegldgjmaaGreat
/- Layer 16, the document's lists of dots: Has, Same; the openers of []api.Dot, []api.Mark as lists. -/
namespace Go.Proofs.YtpakmeegldgjmaaGreat
open Go.RowKit
set_option linter.unusedVariables false
set_option maxRecDepth 100000

theorem four (x1 x2 x3 d1 d2 d3 : Int) : (x1 = d1 ∧ x2 = d2 ∧ x3 = d3) ∨ (x1 ≠ d1 ∨ (x1 = d1 ∧ x2 ≠ d2) ∨ (x1 = d1 ∧ x2 = d2 ∧ x3 ≠ d3)) := by omega
theorem rsame16_any (w : World) (B B' : Nat) (A A' : Option Addr) (c c' : Nat) (L M : List Dt) (hr : Ds w B A L) (hr' : Ds w B' A' M) (hB : B ≤ w.heap.size) (hB' : B' ≤ w.heap.size) (hn : L.length ≤ 9223372036854775807) :
    Calls Tryz.prog 92 #[.slice A L.length c, .slice A' M.length c'] w fun e w' => e = .returned (.bool (decide (L = M))) ∧ Below w.heap.size w w' := by
  by_cases hne : L.length = M.length
  · have HL2 := Lib.hid hne
    rw [← hne]
    generalize hlen : L.length = n at *
    have HL := Lib.hid hlen
    have HR := Lib.hid (And.intro hr hr')
    clear hlen hr hr' hne
    generalize hN : w.heap.size = N at *
    have B0 := Lib.hid (Below.refl N w)
    go_enter Tryz.func92, Tryz.ntmps92
    go_wp2_with fail
    go_loopw [5] (fun i wr => ∃ j : Nat, j ≤ n ∧ i = .int .i64 j ∧ L.take j = M.take j ∧ Below N w wr) (fun i _ => n - (intOf i).toNat)
    case atStart => exact ⟨0, by omega, rfl, by simp, B0.out⟩
    case round =>
      obtain ⟨j, hj, rfl, hno, hb⟩ := hrel
      have HNO := Lib.hid hno
      clear hno B0
      by_cases hlt : j < n
      · obtain ⟨x, hx⟩ : ∃ x, L[j]? = some x := ⟨L[j]'(by have := HL.out; omega), List.getElem?_eq_getElem _⟩
        obtain ⟨y, hy⟩ : ∃ y, M[j]? = some y := ⟨M[j]'(by have := HL2.out; omega), List.getElem?_eq_getElem _⟩
        obtain ⟨b0, o0, hA, hb0, c0, c1, c2⟩ := (HR.out.1.below (hb.mono hB)).at_ hx
        obtain ⟨b1, o1, hA', hb1, e0, e1, e2⟩ := (HR.out.2.below (hb.mono hB')).at_ hy
        have HX := Lib.hid (And.intro hx hy)
        have HB := Lib.hid hb
        clear hx hy hb
        obtain ⟨⟨x1, x2⟩, x3⟩ := x
        obtain ⟨⟨y1, y2⟩, y3⟩ := y
        simp only at c0 c1 c2 e0 e1 e2
        subst hA hA'
        rcases four x1 x2 x3 y1 y2 y3 with ⟨rfl, rfl, rfl⟩ | he
        · have hno2 := Lib.hid (show L.take (j + 1) = M.take (j + 1) by
            rw [List.take_add_one, List.take_add_one, HX.out.1, HX.out.2, HNO.out])
          go_wp2_with fail
          go_region
          go_wp2
          go_roundw
          case rel => exact ⟨j + 1, by omega, by go_num, hno2.out, HB.out.drew⟩
          case measure => simp [intOf]; omega
        · have hin := Lib.hid (show decide (L = M) = false from decide_eq_false fun h => by
            subst h
            have := HX.out.1.symm.trans HX.out.2
            simp at this
            rcases he with he | ⟨_, he⟩ | ⟨_, _, he⟩
            · exact he this.1.1
            · exact he this.1.2
            · exact he this.2)
          rcases he with h1 | ⟨h1, h2⟩ | ⟨h1, h2, h3⟩
          all_goals
            go_wp2_with fail
            go_region
            go_wp2
            go_ret
            exact ⟨ret_bool hin.out.symm, HB.out.drew⟩
      · have hj' : j = n := by omega
        subst hj'
        have hin := Lib.hid (show decide (L = M) = true from decide_eq_true (by
          have := HNO.out
          rwa [List.take_of_length_le (by have := HL.out; omega), List.take_of_length_le (by have := HL2.out; omega)] at this))
        have HB := Lib.hid hb
        clear hb
        go_wp2
        go_ret
        exact ⟨ret_bool hin.out.symm, HB.out⟩
  · have hin : decide (L = M) = false := decide_eq_false fun h => hne (by rw [h])
    rw [hin]
    have B0 := Lib.hid (Below.refl w.heap.size w)
    have h1 : ((L.length : Int) == (M.length : Int)) = false := by simp; omega
    clear hr hr' hin
    generalize L.length = n at *
    generalize M.length = m at *
    go_enter Tryz.func92, Tryz.ntmps92
    go_wp2
    go_ret
    exact ⟨rfl, B0.out⟩
end Go.Proofs.YtpakmeegldgjmaaGreat
/- The opener of []api.Mark; slices of dots or marks as lists. -/
namespace Go.Proofs.YtpakmeegldgjmaaGreat
open Go.ChangeShapes Go.WideShapes Go.ChangeAt Go.RowKit Go.Deep
set_option linter.unusedVariables false
set_option maxRecDepth 100000

/-- Whole numbers of a machine. -/
def dB (x : Dt) : Prop := i64B x.1.1 ∧ i64B x.1.2 ∧ i64B x.2
theorem dB.ok {x : Dt} (h : dB x) : dtOk x := ⟨wf_of h.1.1 h.1.2, wf_of h.2.1.1 h.2.1.2, wf_of h.2.2.1 h.2.2.2⟩
end Go.Proofs.YtpakmeegldgjmaaGreat
/- Layer 16, the document's Sort of dots. -/
namespace Go.Proofs.YtpakmeegldgjmaaGreat
open Go.RowKit
set_option linter.unusedVariables false
set_option maxRecDepth 100000

/-! Cuts of slices of three cells an element. -/
def cut3 (A : Option Addr) (c k : Nat) : Option Addr := if c = k then A else A.map (·.add (k * 3))
theorem Rd.cut3_ {w : World} {B n k c : Nat} {A : Option Addr} {xs : List Value} (h : Rd w B 3 A n xs) (hk : k ≤ n) (hc : n ≤ c) : Rd w B 3 (cut3 A c k) (n - k) (xs.drop (k * 3)) := by
  refine ⟨by rw [List.length_drop, h.1, Nat.sub_mul], fun hn => ?_⟩
  obtain ⟨b, o, rfl, hb, hcell⟩ := h.2 (by omega)
  unfold cut3
  rw [if_neg (by omega)]
  refine ⟨b, o + k * 3, by simp [Addr.add], hb, fun j u hu => ?_⟩
  rw [Nat.add_assoc]
  exact hcell _ u (by rw [← hu, List.getElem?_drop])
theorem Rd.front3 {w : World} {B n k : Nat} {A : Option Addr} {xs : List Value} (h : Rd w B 3 A n xs) (hk : k ≤ n) : Rd w B 3 A k (xs.take (k * 3)) := by
  refine ⟨by rw [List.length_take, h.1]; omega, fun hn => ?_⟩
  obtain ⟨b, o, rfl, hb, hcell⟩ := h.2 (by omega)
  refine ⟨b, o, rfl, hb, fun j u hu => hcell j u ?_⟩
  rw [List.getElem?_take] at hu
  split at hu
  · exact hu
  · cases hu
theorem dts_drop (L : List Dt) (k : Nat) : (dts L).drop (k * 3) = dts (L.drop k) := by
  induction L generalizing k with
  | nil => simp [dts]
  | cons x r ih =>
    cases k with
    | zero => simp
    | succ k =>
      show (dtC x ++ dts r).drop ((k + 1) * 3) = dts (r.drop k)
      rw [← ih, List.drop_append, dtC_len, show (k + 1) * 3 - 3 = k * 3 by omega, List.drop_eq_nil_of_le (by rw [dtC_len]; omega), List.nil_append]
theorem dts_take (L : List Dt) (k : Nat) : (dts L).take (k * 3) = dts (L.take k) := by
  induction L generalizing k with
  | nil => simp [dts]
  | cons x r ih =>
    cases k with
    | zero => simp [dts]
    | succ k =>
      show (dtC x ++ dts r).take ((k + 1) * 3) = dtC x ++ dts (r.take k)
      rw [← ih, List.take_append, dtC_len, show (k + 1) * 3 - 3 = k * 3 by omega, List.take_of_length_le (by rw [dtC_len]; omega)]
theorem dts_one (L : List Dt) : ∀ u ∈ dts L, u.oneCell' = true := by
  intro u hu
  obtain ⟨x, _, hx⟩ := List.mem_flatMap.1 hu
  simp [dtC] at hx
  rcases hx with rfl | rfl | rfl <;> rfl
theorem dtC_one (x : Dt) : ∀ u ∈ dtC x, u.oneCell' = true := by
  intro u hx
  simp [dtC] at hx
  rcases hx with rfl | rfl | rfl <;> rfl
theorem Ds.front {w : World} {B k : Nat} {A : Option Addr} {L : List Dt} (h : Ds w B A L) (hk : k ≤ L.length) : Rd w B 3 A k (dts (L.take k)) := by
  rw [← dts_take]; exact Rd.front3 h hk
theorem Ds.back {w : World} {B k c : Nat} {A : Option Addr} {L : List Dt} (h : Ds w B A L) (hk : k ≤ L.length) (hc : L.length ≤ c) : Rd w B 3 (cut3 A c k) (L.length - k) (dts (L.drop k)) := by
  rw [← dts_drop]; exact Rd.cut3_ h hk hc
section
variable {P : Program} (t : TypeId) (ht : P.underlying t = some (.slice (P.elem t))) (hs : ∀ w, (sizeOf (P.elem t)).run P w = .ok 3 w)
include ht hs
end
theorem rd_fresh3 (w : World) (x : Dt) (e : TypeId) : Rd (w.alloc (.cells #[.int .i64 x.1.1, .int .i64 x.1.2, .int .i64 x.2] e)) (w.heap.size + 1) 3 (some ⟨w.heap.size, 0, none⟩) 1 (dtC x) :=
  ⟨rfl, fun _ => ⟨_, _, rfl, by omega, fun j u hu => by rw [(Whole.new w e #[.int .i64 x.1.1, .int .i64 x.1.2, .int .i64 x.2]).cell, Nat.zero_add, ← Array.getElem?_toList]; exact hu⟩⟩
theorem own_e3 (w : World) (e : TypeId) (base : Nat) (h : base ≤ w.heap.size) : Own (w.alloc (.cells #[] e)) base e 3 (some ⟨w.heap.size, 0, none⟩) 0 0 [] :=
  ⟨⟨rfl, .inr ⟨w.heap.size, 0, #[], rfl, h, heap_alloc_new w _, Nat.le_refl _, by simp [maxLen], by simp, by simp⟩⟩, Nat.le_refl _, by simp [maxLen]⟩
theorem info_dt : (Tryz.prog.info? 50).map (fun i => (i.zero, i.size, i.bytes)) = some (some (.agg #[.int .i64 0, .int .i64 0, .int .i64 0]), 3, 24) := by kernel_rfl
theorem rless_dLt (x y : Dt) : rlessB x.1.1 x.1.2 x.2 y.1.1 y.1.2 y.2 = dLt x y := by
  rw [Bool.eq_iff_iff]
  unfold rlessB aheadB dLt
  repeat' split
  all_goals (simp only [decide_eq_true_eq]; omega)
end Go.Proofs.YtpakmeegldgjmaaGreat
/- Merged: Y0, Y1, Y2, Y3, Y4. -/
/- Vectors (plain): how many marks there are at most; sums. -/
namespace Go.Proofs.YtpakmeegldgjmaaGreat
set_option linter.unusedVariables false

theorem nodup_len : ∀ (N : Nat) (l : List Nat), l.Nodup → (∀ x ∈ l, x < N) → l.length ≤ N
  | 0, [], _, _ => Nat.le_refl _
  | 0, x :: r, _, h => absurd (h x (List.mem_cons_self ..)) (by omega)
  | N + 1, l, hn, h => by
    have h1 := nodup_len N (l.erase N) (hn.erase N) (fun x hx => by
      have hx' := (hn.mem_erase_iff).1 hx
      have := h x hx'.2
      have := hx'.1
      omega)
    rw [List.length_erase] at h1
    split at h1 <;> omega
def acN (a : Ac) : Nat := a.1.toNat * 1048577 + a.2.toNat
theorem Vw.len {M : List Dt} (h : Vw M) : M.length ≤ 67108928 := by
  have hr : ∀ a ∈ M.map (·.1), 0 ≤ a.1 ∧ a.1 < 64 ∧ 1 ≤ a.2 ∧ a.2 ≤ 1048576 := fun a ha => by
    obtain ⟨x, hx, rfl⟩ := List.mem_map.1 ha
    have := (rightD_iff x).1 (h.2 x hx)
    omega
  have hn : ((M.map (·.1)).map acN).Nodup := by
    have h1 := h.1.nodup
    rw [List.nodup_iff_pairwise_ne] at h1 ⊢
    rw [List.pairwise_map]
    refine h1.imp_of_mem fun {a b} ha hb hne he => hne ?_
    have h2 := hr a ha
    have h3 := hr b hb
    unfold acN at he
    exact ac_ext (by omega) (by omega)
  have := nodup_len 67108928 _ hn fun x hx => by
    obtain ⟨a, ha, rfl⟩ := List.mem_map.1 hx
    have := hr a ha
    unfold acN
    omega
  simpa using this
end Go.Proofs.YtpakmeegldgjmaaGreat
/- Layer 17 (vector): New, right, Get, Has. -/
namespace Go.Proofs.YtpakmeegldgjmaaGreat
open Go.RowKit
set_option linter.unusedVariables false
set_option maxRecDepth 100000

/-- v points to a vector with the marks M; its map lies in block b. -/
def VecIs (w : World) (v b : Nat) (M : List Dt) : Prop := Whole w v 146 #[.map (some b)] ∧ MapIs Tryz.prog 48 3 acV acOk w b M ∧ Vw M
section
variable {w w' : World} {v b : Nat} {M : List Dt}
theorem VecIs.ltv (h : VecIs w v b M) : v < w.heap.size := h.1.lt
theorem VecIs.ltb (h : VecIs w v b M) : b < w.heap.size := h.2.1.lt
theorem VecIs.ne (h : VecIs w v b M) : v ≠ b := by
  rintro rfl
  obtain ⟨es, clock, hb, _⟩ := h.2.1.1
  have h1 := h.1
  unfold Whole at h1
  rw [h1] at hb
  cases hb
theorem VecIs.block (h : VecIs w v b M) (h1 : w'.heap[v]? = w.heap[v]?) (h2 : w'.heap[b]? = w.heap[b]?) : VecIs w' v b M := ⟨h1.trans h.1, h.2.1.block h2, h.2.2⟩
theorem VecIs.below {B : Nat} (h : VecIs w v b M) (hb : Below B w w') (h1 : v < B) (h2 : b < B) : VecIs w' v b M := h.block (hb.block v h1) (hb.block b h2)
theorem VecIs.up (h : VecIs w v b M) (hb : Below w.heap.size w w') : VecIs w' v b M := h.below hb h.ltv h.ltb
theorem VecIs.alloc (h : VecIs w v b M) (o : Obj) : VecIs (w.alloc o) v b M := h.up ((Below.refl _ _).alloc (Nat.le_refl _) _)
theorem VecIs.drew (h : VecIs w v b M) : VecIs w.drew v b M := h
theorem VecIs.ch {S : Nat → Prop} (h : VecIs w v b M) (hc : Ch S w w') (h1 : ¬ S v) (h2 : ¬ S b) : VecIs w' v b M := h.block (hc.block v h.ltv h1) (hc.block b h.ltb h2)
theorem VecIs.cell (h : VecIs w v b M) : w.cell? ⟨v, 0, none⟩ = some (.map (some b)) := by rw [h.1.cell]; rfl
theorem VecIs.look (h : VecIs w v b M) {a : Ac} (ha : acOk a) : (Instr.lookup 144 (.map (some b)) (acV a) false).run Tryz.prog w = .ok (.int .i64 (mget M a)) w :=
  h.2.1.lookup actor_key Tryz.underlying144 Tryz.underlying3 (Tryz.zeroValue3 _) ha
end
/-- p points to a vector with the marks M, or is nil (M is empty then). -/
def VecAt (w : World) (p : Option Addr) (M : List Dt) : Prop := (p = none ∧ M = []) ∨ ∃ v b, p = some ⟨v, 0, none⟩ ∧ VecIs w v b M
theorem VecIs.at_ {w : World} {v b : Nat} {M : List Dt} (h : VecIs w v b M) : VecAt w (some ⟨v, 0, none⟩) M := .inr ⟨v, b, rfl, h⟩
theorem VecAt.nil (w : World) : VecAt w none [] := .inl ⟨rfl, rfl⟩
theorem VecAt.up {w w' : World} {p : Option Addr} {M : List Dt} (h : VecAt w p M) (hb : Below w.heap.size w w') : VecAt w' p M := by
  rcases h with h | ⟨v, b, rfl, h⟩
  · exact .inl h
  · exact .inr ⟨v, b, rfl, h.up hb⟩
theorem VecAt.vw {w : World} {p : Option Addr} {M : List Dt} (h : VecAt w p M) : Vw M := by
  rcases h with ⟨_, rfl⟩ | ⟨v, b, _, h⟩
  · exact Vw.nil
  · exact h.2.2
theorem acOk_right {a : Ac} {n : Int} (h : rightD (a, n) = true) : acOk a := by
  have := (rightD_iff _).1 h
  simp only at this
  exact ⟨wf_of (by omega) (by omega), wf_of (by omega) (by omega)⟩
theorem vcnew_any (w : World) : Calls Tryz.prog 42 #[] w fun e w' => e = .returned (.pointer (some ⟨w.heap.size + 1, 0, none⟩)) ∧ VecIs w' (w.heap.size + 1) w.heap.size [] ∧ Below w.heap.size w w' := by
  have H : VecIs ((w.alloc (.map #[] 0)).alloc (.cells #[.map (some w.heap.size)] 146)) (w.heap.size + 1) w.heap.size [] := by
    refine ⟨?_, (MapIs.made w).alloc _, Vw.nil⟩
    have := Whole.new (w.alloc (.map #[] 0)) 146 #[.map (some w.heap.size)]
    simpa using this
  have B0 : Below w.heap.size w ((w.alloc (.map #[] 0)).alloc (.cells #[.map (some w.heap.size)] 146)) := ((Below.refl _ _).alloc (Nat.le_refl _) _).alloc (by simp) _
  have HH := Lib.hid (And.intro H B0)
  clear H B0
  have mk : (Instr.makeMap 144 none).run Tryz.prog w = .ok (.map (some w.heap.size)) (w.alloc (.map #[] 0)) := run_makeMap _ _
  go_enter Tryz.func42, Tryz.ntmps42
  go_wp2
  go_ret
  exact ⟨rfl, HH.out.1, HH.out.2⟩
theorem vcright_any (a : Ac) (n : Int) (w : World) : Calls Tryz.prog 99 #[acV a, .int .i64 n] w fun e w' => e = .returned (.bool (rightD (a, n))) ∧ Below w.heap.size w w' := by
  obtain ⟨d, i⟩ := a
  have C1 := Lib.hid (fun w => right_any d i n w)
  have hr : dotB d i n = rightD ((d, i), n) := rfl
  generalize rightD ((d, i), n) = r at *
  rw [hr] at C1
  clear hr
  unfold dotV at C1
  unfold acV
  have hW := Whole.new w 48 #[.int .i64 d, .int .i64 i]
  have B0 := Lib.hid ((Below.refl w.heap.size w).alloc (Nat.le_refl _) (.cells #[.int .i64 d, .int .i64 i] 48))
  go_enter Tryz.func99, Tryz.ntmps99
  go_wp2_with fail
  refine (C1.out _).mono ?_; rintro e w1 ⟨rfl, b1⟩
  go_wp2
  go_ret
  exact ⟨rfl, B0.out.trans (below_of_le b1 (by simp))⟩
theorem vcget_in (a : Ac) (ok : acOk a) (w : World) (v b : Nat) (M : List Dt) (h : VecIs w v b M) :
    Calls Tryz.prog 45 #[.pointer (some ⟨v, 0, none⟩), acV a] w fun e w' => e = .returned (.int .i64 (mget M a)) ∧ Below w.heap.size w w' := by
  obtain ⟨d, i⟩ := a
  have hW := Whole.new w 48 #[.int .i64 d, .int .i64 i]
  have B0 := Lib.hid ((Below.refl w.heap.size w).alloc (Nat.le_refl _) (.cells #[.int .i64 d, .int .i64 i] 48))
  have hv := h.alloc (.cells #[.int .i64 d, .int .i64 i] 48)
  have H := Lib.hid (And.intro hW hv)
  clear hW hv h
  generalize hq : mget M (d, i) = q
  have HQ := Lib.hid hq
  clear hq
  unfold acV
  go_enter Tryz.func45, Tryz.ntmps45
  go_wp2_with fail
  obtain ⟨hW, hv⟩ := H.out
  clear H
  generalize hN : w.heap.size = N at *
  generalize (w.alloc (.cells #[.int .i64 d, .int .i64 i] 48)) = W at *
  have c0 : W.cell? ⟨N, 0, none⟩ = some (.int .i64 d) := by rw [hW.cell]; rfl
  have c1 : W.cell? ⟨N, 1, none⟩ = some (.int .i64 i) := by rw [hW.cell]; rfl
  have c2 := hv.cell
  have lk := hv.drew.look ok
  rw [HQ.out] at lk
  unfold acV at lk
  clear hW hv
  go_region
  go_wp2
  go_ret
  exact ⟨rfl, B0.out.drew⟩
theorem vcget_nil (a : Ac) (w : World) : Calls Tryz.prog 45 #[.pointer none, acV a] w fun e w' => e = .returned (.int .i64 0) ∧ Below w.heap.size w w' := by
  obtain ⟨d, i⟩ := a
  have B0 := Lib.hid ((Below.refl w.heap.size w).alloc (Nat.le_refl _) (.cells #[.int .i64 d, .int .i64 i] 48))
  unfold acV
  go_enter Tryz.func45, Tryz.ntmps45
  go_wp2
  go_ret
  exact ⟨rfl, B0.out⟩
theorem vcget_any (a : Ac) (ok : acOk a) (w : World) (p : Option Addr) (M : List Dt) (h : VecAt w p M) :
    Calls Tryz.prog 45 #[.pointer p, acV a] w fun e w' => e = .returned (.int .i64 (mget M a)) ∧ Below w.heap.size w w' := by
  rcases h with ⟨rfl, rfl⟩ | ⟨v, b, rfl, h⟩
  · exact vcget_nil a w
  · exact vcget_in a ok w v b M h
/-- A dot lies boxed in block N; beside it X holds. -/
def St3 (w : World) (N : Nat) (d i s : Int) (X : World → Prop) (W : World) : Prop :=
  Below N w W ∧ N + 1 ≤ W.heap.size ∧ W.cell? ⟨N, 0, none⟩ = some (.int .i64 d) ∧ W.cell? ⟨N, 1, none⟩ = some (.int .i64 i) ∧ W.cell? ⟨N, 2, none⟩ = some (.int .i64 s) ∧ X W
theorem St3.step {w : World} {N : Nat} {d i s : Int} {X : World → Prop} {W W' : World} (hX : ∀ W W', X W → Below W.heap.size W W' → X W') (h : St3 w N d i s X W) (b : Below W.heap.size W W') : St3 w N d i s X W' := by
  obtain ⟨h5, h3, h0, h1, h2, h4⟩ := h
  have hs := b.size
  refine ⟨h5.trans (below_of_le b (by omega)), by omega, ?_, ?_, ?_, hX _ _ h4 b⟩
  all_goals
    rw [b.cell (by simp only; omega)]
    assumption
theorem St3.new (w : World) (d i s : Int) (X : World → Prop) (hX : ∀ W W', X W → Below W.heap.size W W' → X W') (h : X w) (t : TypeId) : St3 w w.heap.size d i s X (w.alloc (.cells #[.int .i64 d, .int .i64 i, .int .i64 s] t)) := by
  have hW := Whole.new w t #[.int .i64 d, .int .i64 i, .int .i64 s]
  have B0 := (Below.refl w.heap.size w).alloc (Nat.le_refl _) (.cells #[.int .i64 d, .int .i64 i, .int .i64 s] t)
  refine ⟨B0, by simp, ?_, ?_, ?_, hX _ _ h B0⟩
  all_goals
    rw [hW.cell]
    rfl
/-- Has a vector a dot? -/
def vhasB (M : List Dt) (x : Dt) : Bool := rightD x && decide (x.2 ≤ mget M x.1)
theorem vchas_any (x : Dt) (w : World) (p : Option Addr) (M : List Dt) (h : VecAt w p M) :
    Calls Tryz.prog 44 #[.pointer p, dtV x] w fun e w' => e = .returned (.bool (vhasB M x)) ∧ Below w.heap.size w w' := by
  obtain ⟨⟨d, i⟩, s⟩ := x
  have hX : ∀ W W', VecAt W p M → Below W.heap.size W W' → VecAt W' p M := fun W W' h b => h.up b
  have H := Lib.hid (St3.new w d i s (fun W => VecAt W p M) hX h 50)
  have ST := Lib.hid (fun N W W' => @St3.step w N d i s (fun W => VecAt W p M) W W' hX)
  generalize hN : w.heap.size = N at *
  have CR := Lib.hid (fun W (hS : St3 w N d i s (fun W => VecAt W p M) W) => (right_any d i s W).mono fun e w' (h' : e = _ ∧ Below W.heap.size W w') => And.intro h'.1 (ST.out N _ _ hS h'.2))
  clear h hX
  cases hr : rightD ((d, i), s)
  · have hr' : dotB d i s = false := hr
    have hz : vhasB M ((d, i), s) = false := by unfold vhasB; rw [hr]; rfl
    rw [hz]
    rw [hr'] at CR
    unfold dtV
    unfold dotV at CR
    clear hr hr' hz
    go_enter Tryz.func44, Tryz.ntmps44
    go_wp2_with fail
    have SD := Lib.hid (ST.out _ _ _ H.out (Below.drew (Below.refl _ _)))
    obtain ⟨s0, s1, s2, s3, s4, s5⟩ := H.out
    clear H
    generalize (w.alloc (.cells #[.int .i64 d, .int .i64 i, .int .i64 s] 50)) = W at *
    refine wp_region_any (by kernel_rfl) ?_
    change wpAny _ _ _ _ _ _ _ W.drew
    (refine wpAny_ready (rs := [0]) (by kernel_rfl) (by simp) ?_; refine AllReady.cons rfl (fun K hK => ?_) AllReady.nil)
    go_simp
    refine hK _ _ ?_; clear hK K
    (refine wpAny_ready (rs := [1]) (by kernel_rfl) (by simp) ?_; refine AllReady.cons rfl (fun K hK => ?_) AllReady.nil)
    go_simp
    go_wp2_with (go_at_call 84; refine (CR.out _ SD.out).mono ?_; rintro e w1 ⟨rfl, t0, t1, t2, t3, t4, t5⟩)
    (refine wpAny_ready (rs := [2]) (by kernel_rfl) (by simp) ?_; refine AllReady.cons rfl (fun K hK => ?_) AllReady.nil)
    go_simp
    refine hK _ _ ?_; clear hK K
    (refine wpAny_take (i := 3) (v := undef) rfl (by kernel_rfl) (by kernel_rfl) (by kernel_rfl) (fun _ _ _ h => h) (Or.inr ⟨by rfl, rfl⟩) ?_; refine wpAny_take (i := 4) (v := undef) rfl (by kernel_rfl) (by kernel_rfl) (by kernel_rfl) (fun _ _ _ h => h) (Or.inr ⟨by rfl, rfl⟩) ?_; refine wpAny_take (i := 5) (v := undef) rfl (by kernel_rfl) (by kernel_rfl) (by kernel_rfl) (fun _ _ _ h => h) (Or.inr ⟨by rfl, rfl⟩) ?_; refine wpAny_take (i := 6) (v := undef) rfl (by kernel_rfl) (by kernel_rfl) (by kernel_rfl) (fun _ _ _ h => h) (Or.inr ⟨by rfl, rfl⟩) ?_; refine wpAny_take (i := 7) (v := undef) rfl (by kernel_rfl) (by kernel_rfl) (by kernel_rfl) (fun _ _ _ h => h) (Or.inr ⟨by rfl, rfl⟩) ?_; refine wpAny_take (i := 8) (v := undef) rfl (by kernel_rfl) (by kernel_rfl) (by kernel_rfl) (fun _ _ _ h => h) (Or.inr ⟨by rfl, rfl⟩) ?_; refine wpAny_take (i := 9) (v := undef) rfl (by kernel_rfl) (by kernel_rfl) (by kernel_rfl) (fun _ _ _ h => h) (Or.inr ⟨by rfl, rfl⟩) ?_)
    (refine wpAny_ready (rs := [10]) (by kernel_rfl) (by simp) ?_; refine AllReady.cons rfl (fun K hK => ?_) AllReady.nil)
    go_simp
    refine hK _ _ ?_; clear hK K
    (refine wpAny_ready (rs := [11]) (by kernel_rfl) (by simp) ?_; refine AllReady.cons rfl (fun K hK => ?_) AllReady.nil)
    go_simp
    refine hK _ _ ?_; clear hK K
    refine wpAny_done (by kernel_rfl) ?_ _
    go_wp2
    go_ret
    exact ⟨rfl, t0⟩
  · have hr' : dotB d i s = true := hr
    have hz : vhasB M ((d, i), s) = decide (s ≤ mget M (d, i)) := by unfold vhasB; rw [hr]; rfl
    have ok : acOk (d, i) := acOk_right hr
    have CG := Lib.hid (fun W (hS : St3 w N d i s (fun W => VecAt W p M) W) => (vcget_any (d, i) ok W p M hS.2.2.2.2.2).mono fun e w' (h' : e = _ ∧ Below W.heap.size W w') => And.intro h'.1 (ST.out N _ _ hS h'.2))
    rw [hz]
    generalize mget M (d, i) = q at *
    rw [hr'] at CR
    unfold dtV
    unfold dotV at CR
    unfold acV at CG
    clear hr hr' hz ok
    go_enter Tryz.func44, Tryz.ntmps44
    go_wp2_with fail
    obtain ⟨s0, s1, s2, s3, s4, s5⟩ := H.out
    clear H
    generalize (w.alloc (.cells #[.int .i64 d, .int .i64 i, .int .i64 s] 50)) = W at *
    go_region_held3 (fun W => Below N w W ∧ N + 1 ≤ W.heap.size ∧ W.cell? ⟨N, 0, none⟩ = some (.int .i64 d) ∧ W.cell? ⟨N, 1, none⟩ = some (.int .i64 i) ∧ W.cell? ⟨N, 2, none⟩ = some (.int .i64 s) ∧ VecAt W p M)
      (first | assumption | exact ⟨by assumption, by assumption, by assumption, by assumption, by assumption, by assumption⟩ | exact ST.out _ _ _ ⟨by assumption, by assumption, by assumption, by assumption, by assumption, by assumption⟩ (Below.drew (Below.refl _ _)))
      (first | (go_at_call 84; refine (CR.out _ (by first | assumption | exact ⟨by assumption, by assumption, by assumption, by assumption, by assumption, by assumption⟩)).mono ?_; rintro e w1 ⟨rfl, s0, s1, s2, s3, s4, s5⟩) | (go_at_call 45; refine (CG.out _ (by first | assumption | exact ⟨by assumption, by assumption, by assumption, by assumption, by assumption, by assumption⟩)).mono ?_; rintro e w1 ⟨rfl, s0, s1, s2, s3, s4, s5⟩))
    refine (by assumption : ∀ (a : Act) (w : World), _ → _) _ _ ?_
    go_wp2
    go_ret
    have hz := (by assumption : Below N w _ ∧ N + 1 ≤ _ ∧ _)
    exact ⟨rfl, hz.1⟩
end Go.Proofs.YtpakmeegldgjmaaGreat
/- Layer 17 (vector): Raise, Take. -/
namespace Go.Proofs.YtpakmeegldgjmaaGreat
open Go.RowKit
set_option linter.unusedVariables false
set_option maxRecDepth 100000
attribute [local go_sem ↓] Go.wp_at_zero Go.wp_at_succ

/-- An actor lies boxed in block N; beside it X holds. -/
def St2 (w : World) (N : Nat) (d i : Int) (X : World → Prop) (W : World) : Prop :=
  Below N w W ∧ N + 1 ≤ W.heap.size ∧ W.cell? ⟨N, 0, none⟩ = some (.int .i64 d) ∧ W.cell? ⟨N, 1, none⟩ = some (.int .i64 i) ∧ X W
theorem St2.step {w : World} {N : Nat} {d i : Int} {X : World → Prop} {W W' : World} (hX : ∀ W W', X W → Below W.heap.size W W' → X W') (h : St2 w N d i X W) (b : Below W.heap.size W W') : St2 w N d i X W' := by
  obtain ⟨h5, h3, h0, h1, h4⟩ := h
  have hs := b.size
  refine ⟨h5.trans (below_of_le b (by omega)), by omega, ?_, ?_, hX _ _ h4 b⟩
  all_goals
    rw [b.cell (by simp only; omega)]
    assumption
theorem St2.new (w : World) (d i : Int) (X : World → Prop) (hX : ∀ W W', X W → Below W.heap.size W W' → X W') (h : X w) (t : TypeId) : St2 w w.heap.size d i X (w.alloc (.cells #[.int .i64 d, .int .i64 i] t)) := by
  have hW := Whole.new w t #[.int .i64 d, .int .i64 i]
  have B0 := (Below.refl w.heap.size w).alloc (Nat.le_refl _) (.cells #[.int .i64 d, .int .i64 i] t)
  refine ⟨B0, by simp, ?_, ?_, hX _ _ h B0⟩
  all_goals
    rw [hW.cell]
    rfl
/-- What a raise leaves: the map's block alone has changed. -/
def RaiseEnd (w : World) (v b : Nat) (M : List Dt) (r : Bool) (e : Ending) (w' : World) : Prop := e = .returned (.bool r) ∧ VecIs w' v b M ∧ Ch (fun k => k = b) w w'
theorem VecIs.upd {w : World} {v b : Nat} {M : List Dt} (h : VecIs w v b M) (a : Ac) (n : Int) (hr : rightD (a, n) = true) :
    ∃ w', (Instr.mapUpdate 144 (.map (some b)) (acV a) (.int .i64 n)).run Tryz.prog w = .ok () w' ∧ VecIs w' v b (rset M a n) ∧ Ch (fun k => k = b) w w' := by
  have hb := (rightD_iff _).1 hr
  simp only at hb
  have hl := h.2.2.len
  obtain ⟨w', q, m, g⟩ := h.2.1.update actor_key Tryz.underlying144 Tryz.underlying3 (by simp only [maxLen]; omega) (acOk_right hr) (wf_of (by omega) (by omega)) (rset_perm h.2.2.1 a n)
  have hc : Ch (fun k => k = b) w w' := (grown_ch g).mono fun k _ hk => by injection hk
  refine ⟨w', q, ⟨h.1.ch hc h.ne, m, h.2.2.set hr⟩, hc⟩
set_option maxHeartbeats 1000000 in
theorem vcraise_no (a : Ac) (n : Int) (w : World) (v b : Nat) (M : List Dt) (h : VecIs w v b M) (hr : rightD (a, n) = false) :
    Calls Tryz.prog 89 #[.pointer (some ⟨v, 0, none⟩), acV a, .int .i64 n] w fun e w' => e = .returned (.bool false) ∧ Below w.heap.size w w' := by
  obtain ⟨d, i⟩ := a
  have hX : ∀ W W' : World, True → Below W.heap.size W W' → True := fun _ _ h _ => h
  have H := Lib.hid (St2.new w d i (fun _ => True) hX trivial 48)
  have ST := Lib.hid (fun N W W' => @St2.step w N d i (fun _ => True) W W' hX)
  generalize hN : w.heap.size = N at *
  have CR := Lib.hid (fun W (hS : St2 w N d i (fun _ => True) W) => (vcright_any (d, i) n W).mono fun e w' (h' : e = _ ∧ Below W.heap.size W w') => And.intro h'.1 (ST.out N _ _ hS h'.2))
  rw [hr] at CR
  unfold acV at CR
  unfold acV
  clear hr hX h
  go_enter Tryz.func89, Tryz.ntmps89
  go_wp2_with fail
  obtain ⟨s0, s1, s2, s3, s4⟩ := H.out
  clear H
  generalize (w.alloc (.cells #[.int .i64 d, .int .i64 i] 48)) = W at *
  refine wp_region_held_drew (S := (fun W => Below N w W ∧ N + 1 ≤ W.heap.size ∧ W.cell? ⟨N, 0, none⟩ = some (.int .i64 d) ∧ W.cell? ⟨N, 1, none⟩ = some (.int .i64 i) ∧ True)) (by kernel_rfl) ?_ (fun hHeld => ?_)
  · (try dsimp only); exact ST.out _ _ _ ⟨by assumption, by assumption, by assumption, by assumption, by assumption⟩ (Below.drew (Below.refl _ _))
  refine wpAnyH_take (i := 0) (v := ?_) rfl (by kernel_rfl) (by kernel_rfl) (by kernel_rfl) (fun _ _ _ h => h) (Or.inl ⟨by rfl, ?_⟩) (by assumption) ?_
  rotate_left
  first | (focus ((intro w hSw; (try dsimp only at hSw); go_simp); (try with_reducible rfl); done)) | fail
  try simp only [Act.put, List.getElem_toArray, List.getElem_cons_zero, List.setIfInBounds_toArray, List.set_cons_zero, List.set_cons_succ]
  refine wpAnyH_take (i := 1) (v := ?_) rfl (by kernel_rfl) (by kernel_rfl) (by kernel_rfl) (fun _ _ _ h => h) (Or.inl ⟨by rfl, ?_⟩) (by assumption) ?_
  rotate_left
  first | (focus ((intro w hSw; (try dsimp only at hSw); go_simp); (try with_reducible rfl); done)) | fail
  try simp only [Act.put, List.getElem_toArray, List.getElem_cons_zero, List.getElem_cons_succ, List.setIfInBounds_toArray, List.set_cons_zero, List.set_cons_succ]
  refine wpAnyH_take (i := 2) (v := ?_) rfl (by kernel_rfl) (by kernel_rfl) (by kernel_rfl) (fun _ _ _ h => h) (Or.inl ⟨by rfl, ?_⟩) (by assumption) ?_
  rotate_left
  first | (focus ((intro w hSw; (try dsimp only at hSw); go_simp); (try with_reducible rfl); done)) | fail
  try simp only [Act.put, List.getElem_toArray, List.getElem_cons_zero, List.getElem_cons_succ, List.setIfInBounds_toArray, List.set_cons_zero, List.set_cons_succ]
  refine wpAnyH_take (i := 3) (v := ?_) rfl (by kernel_rfl) (by kernel_rfl) (by kernel_rfl) (fun _ _ _ h => h) (Or.inl ⟨by rfl, ?_⟩) (by assumption) ?_
  rotate_left
  first | (focus ((intro w hSw; (try dsimp only at hSw); go_simp); (try with_reducible rfl); done)) | fail
  try simp only [Act.put, List.getElem_toArray, List.getElem_cons_zero, List.getElem_cons_succ, List.setIfInBounds_toArray, List.set_cons_zero, List.set_cons_succ]
  refine wpAnyH_take (i := 4) (v := ?_) rfl (by kernel_rfl) (by kernel_rfl) (by kernel_rfl) (fun _ _ _ h => h) (Or.inl ⟨by rfl, ?_⟩) (by assumption) ?_
  rotate_left
  first | (focus ((intro w hSw; (try dsimp only at hSw); go_simp); (try with_reducible rfl); done)) | fail
  try simp only [Act.put, List.getElem_toArray, List.getElem_cons_zero, List.getElem_cons_succ, List.setIfInBounds_toArray, List.set_cons_zero, List.set_cons_succ]
  refine wpAnyH_ready (rs := [5]) (by kernel_rfl) (by simp) ?_
  refine AllReadyH.cons rfl (fun K hK => ?_) AllReadyH.nil
  go_simp
  refine (CR.out _ hHeld).mono ?_; rintro e w1 ⟨rfl, t0, t1, t2, t3, t4⟩
  go_wp2_with fail
  refine hK.out _ _ ?_ (fun hHeld => ?_)
  · (try dsimp only); exact ⟨by assumption, by assumption, by assumption, by assumption, by assumption⟩
  clear hK K
  try simp only [Act.put, List.getElem_toArray, List.getElem_cons_zero, List.getElem_cons_succ, List.setIfInBounds_toArray, List.set_cons_zero, List.set_cons_succ]
  refine wpAnyH_take (i := 6) (v := ?_) rfl (by kernel_rfl) (by kernel_rfl) (by kernel_rfl) (fun _ _ _ h => h) (Or.inl ⟨by rfl, ?_⟩) (by assumption) ?_
  rotate_left
  first | (focus ((intro w hSw; (try dsimp only at hSw); go_simp); (try with_reducible rfl); done)) | fail
  try simp only [Act.put, List.getElem_toArray, List.getElem_cons_zero, List.getElem_cons_succ, List.setIfInBounds_toArray, List.set_cons_zero, List.set_cons_succ]
  refine wpAnyH_take (i := 7) (v := ?_) rfl (by kernel_rfl) (by kernel_rfl) (by kernel_rfl) (fun _ _ _ h => h) (Or.inl ⟨by rfl, ?_⟩) (by assumption) ?_
  rotate_left
  first | (focus ((intro w hSw; (try dsimp only at hSw); go_simp); (try with_reducible rfl); done)) | fail
  try simp only [Act.put, List.getElem_toArray, List.getElem_cons_zero, List.getElem_cons_succ, List.setIfInBounds_toArray, List.set_cons_zero, List.set_cons_succ]
  refine wpAnyH_take (i := 8) (v := ?_) rfl (by kernel_rfl) (by kernel_rfl) (by kernel_rfl) (fun _ _ _ h => h) (Or.inl ⟨by rfl, ?_⟩) (by assumption) ?_
  rotate_left
  first | (focus ((intro w hSw; (try dsimp only at hSw); go_simp); (try with_reducible rfl); done)) | fail
  try simp only [Act.put, List.getElem_toArray, List.getElem_cons_zero, List.getElem_cons_succ, List.setIfInBounds_toArray, List.set_cons_zero, List.set_cons_succ]
  refine wpAnyH_take (i := 9) (v := undef) rfl (by kernel_rfl) (by kernel_rfl) (by kernel_rfl) (fun _ _ _ h => h) (Or.inr ⟨by rfl, rfl⟩) (by assumption) ?_
  try simp only [Act.put, List.getElem_toArray, List.getElem_cons_zero, List.getElem_cons_succ, List.setIfInBounds_toArray, List.set_cons_zero, List.set_cons_succ]
  refine wpAnyH_take (i := 10) (v := undef) rfl (by kernel_rfl) (by kernel_rfl) (by kernel_rfl) (fun _ _ _ h => h) (Or.inr ⟨by rfl, rfl⟩) (by assumption) ?_
  try simp only [Act.put, List.getElem_toArray, List.getElem_cons_zero, List.getElem_cons_succ, List.setIfInBounds_toArray, List.set_cons_zero, List.set_cons_succ]
  refine wpAnyH_take (i := 11) (v := undef) rfl (by kernel_rfl) (by kernel_rfl) (by kernel_rfl) (fun _ _ _ h => h) (Or.inr ⟨by rfl, rfl⟩) (by assumption) ?_
  try simp only [Act.put, List.getElem_toArray, List.getElem_cons_zero, List.getElem_cons_succ, List.setIfInBounds_toArray, List.set_cons_zero, List.set_cons_succ]
  refine wpAnyH_take (i := 12) (v := undef) rfl (by kernel_rfl) (by kernel_rfl) (by kernel_rfl) (fun _ _ _ h => h) (Or.inr ⟨by rfl, rfl⟩) (by assumption) ?_
  try simp only [Act.put, List.getElem_toArray, List.getElem_cons_zero, List.getElem_cons_succ, List.setIfInBounds_toArray, List.set_cons_zero, List.set_cons_succ]
  refine wpAnyH_take (i := 13) (v := undef) rfl (by kernel_rfl) (by kernel_rfl) (by kernel_rfl) (fun _ _ _ h => h) (Or.inr ⟨by rfl, rfl⟩) (by assumption) ?_
  try simp only [Act.put, List.getElem_toArray, List.getElem_cons_zero, List.getElem_cons_succ, List.setIfInBounds_toArray, List.set_cons_zero, List.set_cons_succ]
  refine wpAnyH_take (i := 14) (v := undef) rfl (by kernel_rfl) (by kernel_rfl) (by kernel_rfl) (fun _ _ _ h => h) (Or.inr ⟨by rfl, rfl⟩) (by assumption) ?_
  try simp only [Act.put, List.getElem_toArray, List.getElem_cons_zero, List.getElem_cons_succ, List.setIfInBounds_toArray, List.set_cons_zero, List.set_cons_succ]
  refine wpAnyH_take (i := 15) (v := undef) rfl (by kernel_rfl) (by kernel_rfl) (by kernel_rfl) (fun _ _ _ h => h) (Or.inr ⟨by rfl, rfl⟩) (by assumption) ?_
  try simp only [Act.put, List.getElem_toArray, List.getElem_cons_zero, List.getElem_cons_succ, List.setIfInBounds_toArray, List.set_cons_zero, List.set_cons_succ]
  refine wpAnyH_take (i := 16) (v := undef) rfl (by kernel_rfl) (by kernel_rfl) (by kernel_rfl) (fun _ _ _ h => h) (Or.inr ⟨by rfl, rfl⟩) (by assumption) ?_
  try simp only [Act.put, List.getElem_toArray, List.getElem_cons_zero, List.getElem_cons_succ, List.setIfInBounds_toArray, List.set_cons_zero, List.set_cons_succ]
  refine wpAnyH_take (i := 17) (v := ?_) rfl (by kernel_rfl) (by kernel_rfl) (by kernel_rfl) (fun _ _ _ h => h) (Or.inl ⟨by rfl, ?_⟩) (by assumption) ?_
  rotate_left
  first | (focus ((intro w hSw; (try dsimp only at hSw); go_simp); (try with_reducible rfl); done)) | fail
  try simp only [Act.put, List.getElem_toArray, List.getElem_cons_zero, List.getElem_cons_succ, List.setIfInBounds_toArray, List.set_cons_zero, List.set_cons_succ]
  refine wpAnyH_done (by kernel_rfl) ?_ _
  go_wp2
  go_ret
  exact ⟨rfl, t0⟩
end Go.Proofs.YtpakmeegldgjmaaGreat
/- Layer 17 (vector): Raise where the mark may be, Take. -/
namespace Go.Proofs.YtpakmeegldgjmaaGreat
open Go.RowKit
set_option linter.unusedVariables false
set_option maxRecDepth 100000

set_option maxHeartbeats 1000000 in
theorem vcraise_yes (a : Ac) (n : Int) (w : World) (v b : Nat) (M : List Dt) (h : VecIs w v b M) (hr : rightD (a, n) = true) :
    Calls Tryz.prog 89 #[.pointer (some ⟨v, 0, none⟩), acV a, .int .i64 n] w (RaiseEnd w v b (rraise M a n) (raisedB M a n)) := by
  obtain ⟨d, i⟩ := a
  have ok : acOk (d, i) := acOk_right hr
  generalize hq : mget M (d, i) = q
  have hX : ∀ W W' : World, (W.cell? ⟨v, 0, none⟩ = some (.map (some b)) ∧ (Instr.lookup 144 (.map (some b)) (acV (d, i)) false).run Tryz.prog W = .ok (.int .i64 q) W ∧ VecIs W v b M) → Below W.heap.size W W' → (W'.cell? ⟨v, 0, none⟩ = some (.map (some b)) ∧ (Instr.lookup 144 (.map (some b)) (acV (d, i)) false).run Tryz.prog W' = .ok (.int .i64 q) W' ∧ VecIs W' v b M) :=
    fun W W' h b => by
      have hv := h.2.2.up b
      exact ⟨hv.cell, by rw [hv.look ok, hq], hv⟩
  unfold acV at hX
  simp only at hX
  have hx0 : w.cell? ⟨v, 0, none⟩ = some (.map (some b)) ∧ (Instr.lookup 144 (.map (some b)) (acV (d, i)) false).run Tryz.prog w = .ok (.int .i64 q) w ∧ VecIs w v b M := ⟨h.cell, by rw [h.look ok, hq], h⟩
  unfold acV at hx0
  have H := Lib.hid (St2.new w d i (fun W => W.cell? ⟨v, 0, none⟩ = some (.map (some b)) ∧ (Instr.lookup 144 (.map (some b)) (.agg #[.int .i64 d, .int .i64 i]) false).run Tryz.prog W = .ok (.int .i64 q) W ∧ VecIs W v b M) hX hx0 48)
  have ST := Lib.hid (fun N W W' => @St2.step w N d i (fun W => W.cell? ⟨v, 0, none⟩ = some (.map (some b)) ∧ (Instr.lookup 144 (.map (some b)) (.agg #[.int .i64 d, .int .i64 i]) false).run Tryz.prog W = .ok (.int .i64 q) W ∧ VecIs W v b M) W W' hX)
  have UP := Lib.hid (fun (W : World) (hW : VecIs W v b M) => hW.upd (d, i) n hr)
  have CR := Lib.hid (fun N W (hS : St2 w N d i (fun W => W.cell? ⟨v, 0, none⟩ = some (.map (some b)) ∧ (Instr.lookup 144 (.map (some b)) (.agg #[.int .i64 d, .int .i64 i]) false).run Tryz.prog W = .ok (.int .i64 q) W ∧ VecIs W v b M) W) => (vcright_any (d, i) n W).mono fun e w' (h' : e = _ ∧ Below W.heap.size W w') => And.intro h'.1 (ST.out N _ _ hS h'.2))
  rw [hr] at CR
  unfold acV at CR UP
  simp only at UP
  have hlt := Lib.hid (And.intro h.ltv h.ltb)
  have hrb : raisedB M (d, i) n = decide (q < n) := by unfold raisedB; rw [hr, hq]; rfl
  have hrr : rraise M (d, i) n = if decide (q < n) = true then rset M (d, i) n else M := by unfold rraise; rw [hrb]
  rw [hrb, hrr]
  unfold acV
  simp only
  generalize hN : w.heap.size = N at *
  clear hX hx0 h hr hrb hrr ok hq
  by_cases hlt' : q < n
  · have hd : decide (q < n) = true := decide_eq_true hlt'
    have hd2 : decide (n ≤ q) = false := decide_eq_false (by omega)
    simp only [hd, if_true]
    go_enter Tryz.func89, Tryz.ntmps89
    go_wp2_with fail
    obtain ⟨s0, s1, s2, s3, s4, s5, s6⟩ := H.out
    clear H
    generalize (w.alloc (.cells #[.int .i64 d, .int .i64 i] 48)) = W at *
    go_region_held3 (fun W => Below N w W ∧ N + 1 ≤ W.heap.size ∧ W.cell? ⟨N, 0, none⟩ = some (.int .i64 d) ∧ W.cell? ⟨N, 1, none⟩ = some (.int .i64 i) ∧ W.cell? ⟨v, 0, none⟩ = some (.map (some b)) ∧ (Instr.lookup 144 (.map (some b)) (.agg #[.int .i64 d, .int .i64 i]) false).run Tryz.prog W = .ok (.int .i64 q) W ∧ VecIs W v b M)
      (first | assumption | exact ⟨by assumption, by assumption, by assumption, by assumption, by assumption, by assumption, by assumption⟩ | exact ST.out _ _ _ ⟨by assumption, by assumption, by assumption, by assumption, by assumption, by assumption, by assumption⟩ (Below.drew (Below.refl _ _)))
      ((go_at_call 99; refine (CR.out N _ (by first | assumption | exact ⟨by assumption, by assumption, by assumption, by assumption, by assumption, by assumption, by assumption⟩)).mono ?_; rintro e w1 ⟨rfl, s0, s1, s2, s3, s4, s5, s6⟩))
    refine (by assumption : ∀ (a : Act) (w : World), _ → _) _ _ ?_
    have hz := (by assumption : Below N w _ ∧ N + 1 ≤ _ ∧ _)
    obtain ⟨z0, z1, z2, z3, z4, z5, z6⟩ := hz
    obtain ⟨w5, q5, hv5, hc5⟩ := UP.out _ z6.drew
    have HF := Lib.hid (And.intro z0 (And.intro z1 (And.intro hv5 hc5)))
    have qn : ∀ (w : World), (binOp .eql 144 (.map (some b)) (.map none)).run Tryz.prog w = .ok (.bool false) w := fun w => run_eql_map_nil w _ _ _ (some b) Tryz.underlying144
    clear UP z0 z6 hv5 hc5 z5 CR ST
    go_wp2_with fail
    go_region
    go_wp2
    go_ret
    exact ⟨rfl, HF.out.2.2.1, (below_ch (by have := HF.out.1; rw [hN]; exact this.drew)).trans HF.out.2.2.2 (fun k _ h => h)⟩
  · have hd : decide (q < n) = false := decide_eq_false hlt'
    have hd2 : decide (n ≤ q) = true := decide_eq_true (by omega)
    simp only [hd, Bool.false_eq_true, if_false]
    go_enter Tryz.func89, Tryz.ntmps89
    go_wp2_with fail
    obtain ⟨s0, s1, s2, s3, s4, s5, s6⟩ := H.out
    clear H
    generalize (w.alloc (.cells #[.int .i64 d, .int .i64 i] 48)) = W at *
    go_region_held3 (fun W => Below N w W ∧ N + 1 ≤ W.heap.size ∧ W.cell? ⟨N, 0, none⟩ = some (.int .i64 d) ∧ W.cell? ⟨N, 1, none⟩ = some (.int .i64 i) ∧ W.cell? ⟨v, 0, none⟩ = some (.map (some b)) ∧ (Instr.lookup 144 (.map (some b)) (.agg #[.int .i64 d, .int .i64 i]) false).run Tryz.prog W = .ok (.int .i64 q) W ∧ VecIs W v b M)
      (first | assumption | exact ⟨by assumption, by assumption, by assumption, by assumption, by assumption, by assumption, by assumption⟩ | exact ST.out _ _ _ ⟨by assumption, by assumption, by assumption, by assumption, by assumption, by assumption, by assumption⟩ (Below.drew (Below.refl _ _)))
      ((go_at_call 99; refine (CR.out N _ (by first | assumption | exact ⟨by assumption, by assumption, by assumption, by assumption, by assumption, by assumption, by assumption⟩)).mono ?_; rintro e w1 ⟨rfl, s0, s1, s2, s3, s4, s5, s6⟩))
    refine (by assumption : ∀ (a : Act) (w : World), _ → _) _ _ ?_
    have hz := (by assumption : Below N w _ ∧ N + 1 ≤ _ ∧ _)
    obtain ⟨z0, z1, z2, z3, z4, z5, z6⟩ := hz
    have HF := Lib.hid (And.intro z0 z6)
    clear UP z0 z6 z5 CR ST
    go_wp2
    go_ret
    exact ⟨rfl, HF.out.2, below_ch (by rw [hN]; exact HF.out.1)⟩
theorem vcraise_any (a : Ac) (n : Int) (w : World) (v b : Nat) (M : List Dt) (h : VecIs w v b M) :
    Calls Tryz.prog 89 #[.pointer (some ⟨v, 0, none⟩), acV a, .int .i64 n] w (RaiseEnd w v b (rraise M a n) (raisedB M a n)) := by
  cases hr : rightD (a, n)
  · have e1 : raisedB M a n = false := by unfold raisedB; rw [hr]; rfl
    have e2 : rraise M a n = M := by unfold rraise; rw [e1]; rfl
    rw [e1, e2]
    exact (vcraise_no a n w v b M h hr).mono fun e w' ⟨he, hb⟩ => ⟨he, h.up hb, below_ch hb⟩
  · exact vcraise_yes a n w v b M h hr
end Go.Proofs.YtpakmeegldgjmaaGreat
/- Layer 17 (vector): Take. -/
namespace Go.Proofs.YtpakmeegldgjmaaGreat
open Go.RowKit
set_option linter.unusedVariables false
set_option maxRecDepth 100000
attribute [local go_sem ↓] Go.wp_at_zero Go.wp_at_succ

/-- Three whole numbers in block N. -/
def C3 (N : Nat) (d i s : Int) (W : World) : Prop := W.cell? ⟨N, 0, none⟩ = some (.int .i64 d) ∧ W.cell? ⟨N, 1, none⟩ = some (.int .i64 i) ∧ W.cell? ⟨N, 2, none⟩ = some (.int .i64 s)
theorem C3.blk {N : Nat} {d i s : Int} {W W' : World} (h : C3 N d i s W) (hb : W'.heap[N]? = W.heap[N]?) : C3 N d i s W' := by
  obtain ⟨h0, h1, h2⟩ := h
  refine ⟨?_, ?_, ?_⟩
  all_goals
    rw [World.cell?_of_block hb]
    assumption
theorem C3.up {N : Nat} {d i s : Int} {W W' : World} (h : C3 N d i s W) (hN : N < W.heap.size) (b : Below W.heap.size W W') : C3 N d i s W' := h.blk (b.block N hN)
theorem C3.new (w : World) (d i s : Int) (t : TypeId) : C3 w.heap.size d i s (w.alloc (.cells #[.int .i64 d, .int .i64 i, .int .i64 s] t)) := by
  have hW := Whole.new w t #[.int .i64 d, .int .i64 i, .int .i64 s]
  refine ⟨?_, ?_, ?_⟩
  all_goals
    rw [hW.cell]
    rfl
set_option maxHeartbeats 1000000 in
theorem vctake_on (x : Dt) (w : World) (v b : Nat) (M : List Dt) (h : VecIs w v b M) (hr : rightD x = true) (hne : mget M x.1 + 1 = x.2) :
    Calls Tryz.prog 47 #[.pointer (some ⟨v, 0, none⟩), dtV x] w (RaiseEnd w v b (rset M x.1 x.2) true) := by
  obtain ⟨⟨d, i⟩, s⟩ := x
  have hr' : dotB d i s = true := hr
  have CR := Lib.hid (fun w => right_any d i s w)
  rw [hr'] at CR
  have CG := Lib.hid (fun W hW => vcget_any (d, i) (acOk_right hr) W (some ⟨v, 0, none⟩) M hW)
  have CA := Lib.hid (fun W hW => vcraise_any (d, i) s W v b M hW)
  have H := Lib.hid (C3.new w d i s 50)
  have B0 := Lib.hid ((Below.refl w.heap.size w).alloc (Nat.le_refl _) (.cells #[.int .i64 d, .int .i64 i, .int .i64 s] 50))
  have HV := Lib.hid (h.up B0.out)
  have hs0 : (w.alloc (.cells #[.int .i64 d, .int .i64 i, .int .i64 s] 50)).heap.size = w.heap.size + 1 := by simp
  have HS := Lib.hid hs0
  have hb := (rightD_iff _).1 hr
  simp only at hb hne
  have hw1 : IntKind.i64.wrap (s - 1) = s - 1 := by rw [IntKind.wrap_i64]; omega
  have hq : mget M (d, i) = s - 1 := by omega
  have hrb : raisedB M (d, i) s = true := by unfold raisedB; rw [hr, hq]; simp; omega
  have hrr : rraise M (d, i) s = rset M (d, i) s := by unfold rraise; rw [hrb]; rfl
  rw [hrb, hrr] at CA
  rw [hq] at CG
  have hltb := Lib.hid h.ltb
  simp only
  generalize rset M (d, i) s = M' at *
  unfold dtV
  unfold dotV at CR
  unfold acV at CG CA
  generalize hN : w.heap.size = N at *
  clear hr hr' hs0 hb hne hq h hrb hrr
  go_enter Tryz.func47, Tryz.ntmps47
  go_wp2_with fail
  generalize (w.alloc (.cells #[.int .i64 d, .int .i64 i, .int .i64 s] 50)) = W at *
  refine wp_region_held_drew (S := (fun W => W.cell? ⟨N, 0, none⟩ = some (.int .i64 d) ∧ W.cell? ⟨N, 1, none⟩ = some (.int .i64 i) ∧ W.cell? ⟨N, 2, none⟩ = some (.int .i64 s))) (by kernel_rfl) ?_ (fun hHeld => ?_)
  · (try dsimp only); exact H.out
  refine wpAnyH_take (i := 0) (v := ?_) rfl (by kernel_rfl) (by kernel_rfl) (by kernel_rfl) (fun _ _ _ h => h) (Or.inl ⟨by rfl, ?_⟩) (by assumption) ?_
  rotate_left
  first | (focus ((intro w hSw; (try dsimp only at hSw); go_simp); (try with_reducible rfl); done)) | fail
  try simp only [Act.put, List.getElem_toArray, List.getElem_cons_zero, List.setIfInBounds_toArray, List.set_cons_zero, List.set_cons_succ]
  refine wpAnyH_ready (rs := [1]) (by kernel_rfl) (by simp) ?_
  refine AllReadyH.cons rfl (fun K hK => ?_) AllReadyH.nil
  go_simp
  refine (CR.out _).mono ?_; rintro e w1 ⟨rfl, b1⟩
  go_wp2_with fail
  refine hK.out _ _ ?_ (fun hHeld => ?_)
  · (try dsimp only); exact C3.up hHeld (show N < W.heap.size by have := HS.out; omega) b1
  clear hK K
  try simp only [Act.put, List.getElem_toArray, List.getElem_cons_zero, List.getElem_cons_succ, List.setIfInBounds_toArray, List.set_cons_zero, List.set_cons_succ]
  have hs1 : N < w1.heap.size := by have := HS.out; have := b1.size; simp only [World.drew] at this; omega
  have hv1 := Lib.hid ((HV.out.drew).up b1)
  refine wpAnyH_take (i := 2) (v := ?_) rfl (by kernel_rfl) (by kernel_rfl) (by kernel_rfl) (fun _ _ _ h => h) (Or.inl ⟨by rfl, ?_⟩) (by assumption) ?_
  rotate_left
  first | (focus ((intro w hSw; (try dsimp only at hSw); go_simp); (try with_reducible rfl); done)) | fail
  try simp only [Act.put, List.getElem_toArray, List.getElem_cons_zero, List.getElem_cons_succ, List.setIfInBounds_toArray, List.set_cons_zero, List.set_cons_succ]
  refine wpAnyH_take (i := 3) (v := ?_) rfl (by kernel_rfl) (by kernel_rfl) (by kernel_rfl) (fun _ _ _ h => h) (Or.inl ⟨by rfl, ?_⟩) (by assumption) ?_
  rotate_left
  first | (focus ((intro w hSw; (try dsimp only at hSw); go_simp); (try with_reducible rfl); done)) | fail
  try simp only [Act.put, List.getElem_toArray, List.getElem_cons_zero, List.getElem_cons_succ, List.setIfInBounds_toArray, List.set_cons_zero, List.set_cons_succ]
  refine wpAnyH_take (i := 4) (v := ?_) rfl (by kernel_rfl) (by kernel_rfl) (by kernel_rfl) (fun _ _ _ h => h) (Or.inl ⟨by rfl, ?_⟩) (by assumption) ?_
  rotate_left
  first | (focus ((intro w hSw; (try dsimp only at hSw); go_simp); (try with_reducible rfl); done)) | fail
  try simp only [Act.put, List.getElem_toArray, List.getElem_cons_zero, List.getElem_cons_succ, List.setIfInBounds_toArray, List.set_cons_zero, List.set_cons_succ]
  refine wpAnyH_take (i := 5) (v := ?_) rfl (by kernel_rfl) (by kernel_rfl) (by kernel_rfl) (fun _ _ _ h => h) (Or.inl ⟨by rfl, ?_⟩) (by assumption) ?_
  rotate_left
  first | (focus ((intro w hSw; (try dsimp only at hSw); go_simp); (try with_reducible rfl); done)) | fail
  try simp only [Act.put, List.getElem_toArray, List.getElem_cons_zero, List.getElem_cons_succ, List.setIfInBounds_toArray, List.set_cons_zero, List.set_cons_succ]
  refine wpAnyH_take (i := 6) (v := ?_) rfl (by kernel_rfl) (by kernel_rfl) (by kernel_rfl) (fun _ _ _ h => h) (Or.inl ⟨by rfl, ?_⟩) (by assumption) ?_
  rotate_left
  first | (focus ((intro w hSw; (try dsimp only at hSw); go_simp); (try with_reducible rfl); done)) | fail
  try simp only [Act.put, List.getElem_toArray, List.getElem_cons_zero, List.getElem_cons_succ, List.setIfInBounds_toArray, List.set_cons_zero, List.set_cons_succ]
  refine wpAnyH_take (i := 7) (v := ?_) rfl (by kernel_rfl) (by kernel_rfl) (by kernel_rfl) (fun _ _ _ h => h) (Or.inl ⟨by rfl, ?_⟩) (by assumption) ?_
  rotate_left
  first | (focus ((intro w hSw; (try dsimp only at hSw); go_simp); (try with_reducible rfl); done)) | fail
  try simp only [Act.put, List.getElem_toArray, List.getElem_cons_zero, List.getElem_cons_succ, List.setIfInBounds_toArray, List.set_cons_zero, List.set_cons_succ]
  refine wpAnyH_take (i := 8) (v := ?_) rfl (by kernel_rfl) (by kernel_rfl) (by kernel_rfl) (fun _ _ _ h => h) (Or.inl ⟨by rfl, ?_⟩) (by assumption) ?_
  rotate_left
  first | (focus ((intro w hSw; (try dsimp only at hSw); go_simp); (try with_reducible rfl); done)) | fail
  try simp only [Act.put, List.getElem_toArray, List.getElem_cons_zero, List.getElem_cons_succ, List.setIfInBounds_toArray, List.set_cons_zero, List.set_cons_succ]
  refine wpAnyH_ready (rs := [9]) (by kernel_rfl) (by simp) ?_
  refine AllReadyH.cons rfl (fun K hK => ?_) AllReadyH.nil
  go_simp
  refine (CG.out _ hv1.out.at_).mono ?_; rintro e w2 ⟨rfl, b2⟩
  go_wp2_with fail
  refine hK.out _ _ ?_ (fun hHeld => ?_)
  · (try dsimp only); exact C3.up hHeld hs1 b2
  clear hK K
  try simp only [Act.put, List.getElem_toArray, List.getElem_cons_zero, List.getElem_cons_succ, List.setIfInBounds_toArray, List.set_cons_zero, List.set_cons_succ]
  have hs2 : N < w2.heap.size := by have := b2.size; omega
  have hv2 := Lib.hid (hv1.out.up b2)
  refine wpAnyH_take (i := 10) (v := ?_) rfl (by kernel_rfl) (by kernel_rfl) (by kernel_rfl) (fun _ _ _ h => h) (Or.inl ⟨by rfl, ?_⟩) (by assumption) ?_
  rotate_left
  first | (focus ((intro w hSw; (try dsimp only at hSw); go_simp); (try with_reducible rfl); done)) | fail
  try simp only [Act.put, List.getElem_toArray, List.getElem_cons_zero, List.getElem_cons_succ, List.setIfInBounds_toArray, List.set_cons_zero, List.set_cons_succ]
  refine wpAnyH_take (i := 11) (v := ?_) rfl (by kernel_rfl) (by kernel_rfl) (by kernel_rfl) (fun _ _ _ h => h) (Or.inl ⟨by rfl, ?_⟩) (by assumption) ?_
  rotate_left
  first | (focus ((intro w hSw; (try dsimp only at hSw); go_simp); (try with_reducible rfl); done)) | fail
  try simp only [Act.put, List.getElem_toArray, List.getElem_cons_zero, List.getElem_cons_succ, List.setIfInBounds_toArray, List.set_cons_zero, List.set_cons_succ]
  refine wpAnyH_take (i := 12) (v := ?_) rfl (by kernel_rfl) (by kernel_rfl) (by kernel_rfl) (fun _ _ _ h => h) (Or.inl ⟨by rfl, ?_⟩) (by assumption) ?_
  rotate_left
  first | (focus ((intro w hSw; (try dsimp only at hSw); go_simp); (try with_reducible rfl); done)) | fail
  try simp only [Act.put, List.getElem_toArray, List.getElem_cons_zero, List.getElem_cons_succ, List.setIfInBounds_toArray, List.set_cons_zero, List.set_cons_succ]
  refine wpAnyH_take (i := 13) (v := ?_) rfl (by kernel_rfl) (by kernel_rfl) (by kernel_rfl) (fun _ _ _ h => h) (Or.inl ⟨by rfl, ?_⟩) (by assumption) ?_
  rotate_left
  first | (focus ((intro w hSw; (try dsimp only at hSw); go_simp); (try with_reducible rfl); done)) | fail
  try simp only [Act.put, List.getElem_toArray, List.getElem_cons_zero, List.getElem_cons_succ, List.setIfInBounds_toArray, List.set_cons_zero, List.set_cons_succ]
  refine wpAnyH_take (i := 14) (v := ?_) rfl (by kernel_rfl) (by kernel_rfl) (by kernel_rfl) (fun _ _ _ h => h) (Or.inl ⟨by rfl, ?_⟩) (by assumption) ?_
  rotate_left
  first | (focus ((intro w hSw; (try dsimp only at hSw); go_simp); (try with_reducible rfl); done)) | fail
  try simp only [Act.put, List.getElem_toArray, List.getElem_cons_zero, List.getElem_cons_succ, List.setIfInBounds_toArray, List.set_cons_zero, List.set_cons_succ]
  refine wpAnyH_take (i := 15) (v := ?_) rfl (by kernel_rfl) (by kernel_rfl) (by kernel_rfl) (fun _ _ _ h => h) (Or.inl ⟨by rfl, ?_⟩) (by assumption) ?_
  rotate_left
  first | (focus ((intro w hSw; (try dsimp only at hSw); go_simp); (try with_reducible rfl); done)) | fail
  try simp only [Act.put, List.getElem_toArray, List.getElem_cons_zero, List.getElem_cons_succ, List.setIfInBounds_toArray, List.set_cons_zero, List.set_cons_succ]
  refine wpAnyH_take (i := 16) (v := ?_) rfl (by kernel_rfl) (by kernel_rfl) (by kernel_rfl) (fun _ _ _ h => h) (Or.inl ⟨by rfl, ?_⟩) (by assumption) ?_
  rotate_left
  first | (focus ((intro w hSw; (try dsimp only at hSw); go_simp); (try with_reducible rfl); done)) | fail
  try simp only [Act.put, List.getElem_toArray, List.getElem_cons_zero, List.getElem_cons_succ, List.setIfInBounds_toArray, List.set_cons_zero, List.set_cons_succ]
  refine wpAnyH_take (i := 17) (v := ?_) rfl (by kernel_rfl) (by kernel_rfl) (by kernel_rfl) (fun _ _ _ h => h) (Or.inl ⟨by rfl, ?_⟩) (by assumption) ?_
  rotate_left
  first | (focus ((intro w hSw; (try dsimp only at hSw); go_simp); (try with_reducible rfl); done)) | fail
  try simp only [Act.put, List.getElem_toArray, List.getElem_cons_zero, List.getElem_cons_succ, List.setIfInBounds_toArray, List.set_cons_zero, List.set_cons_succ]
  refine wpAnyH_ready (rs := [18]) (by kernel_rfl) (by simp) ?_
  refine AllReadyH.cons rfl (fun K hK => ?_) AllReadyH.nil
  go_simp
  refine (CA.out _ hv2.out).mono ?_; rintro e w3 ⟨rfl, hv3, hc3⟩
  go_wp2_with fail
  refine hK.out _ _ ?_ (fun hHeld => ?_)
  · (try dsimp only); exact C3.blk hHeld (hc3.block N hs2 (by have := hltb.out; omega))
  clear hK K
  try simp only [Act.put, List.getElem_toArray, List.getElem_cons_zero, List.getElem_cons_succ, List.setIfInBounds_toArray, List.set_cons_zero, List.set_cons_succ]
  refine wpAnyH_take (i := 19) (v := ?_) rfl (by kernel_rfl) (by kernel_rfl) (by kernel_rfl) (fun _ _ _ h => h) (Or.inl ⟨by rfl, ?_⟩) (by assumption) ?_
  rotate_left
  first | (focus ((intro w hSw; (try dsimp only at hSw); go_simp); (try with_reducible rfl); done)) | fail
  try simp only [Act.put, List.getElem_toArray, List.getElem_cons_zero, List.getElem_cons_succ, List.setIfInBounds_toArray, List.set_cons_zero, List.set_cons_succ]
  refine wpAnyH_take (i := 20) (v := ?_) rfl (by kernel_rfl) (by kernel_rfl) (by kernel_rfl) (fun _ _ _ h => h) (Or.inl ⟨by rfl, ?_⟩) (by assumption) ?_
  rotate_left
  first | (focus ((intro w hSw; (try dsimp only at hSw); go_simp); (try with_reducible rfl); done)) | fail
  try simp only [Act.put, List.getElem_toArray, List.getElem_cons_zero, List.getElem_cons_succ, List.setIfInBounds_toArray, List.set_cons_zero, List.set_cons_succ]
  refine wpAnyH_done (by kernel_rfl) ?_ _
  go_wp2
  go_ret
  have hb2 : Below N w w2 := (B0.out.drew.trans (below_of_le b1 (show N ≤ W.heap.size by have := HS.out; omega))).trans (below_of_le b2 (by omega))
  exact ⟨rfl, hv3, (below_ch (by rw [hN]; exact hb2)).trans hc3 (fun k _ h => h)⟩
end Go.Proofs.YtpakmeegldgjmaaGreat
/- Merged: Y5, Y6, Y7. -/
/- Layer 17 (vector): actors, Marks. -/
namespace Go.Proofs.YtpakmeegldgjmaaGreat
open Go.RowKit
set_option linter.unusedVariables false
set_option maxRecDepth 100000
attribute [local go_sem ↓] Go.wp_at_zero Go.wp_at_succ

/-- 'append' as a step of a region that draws, its run known. -/
theorem step_append_run {P : Program} {ops : Array Oper} {o : Oper} {a : Act} {w : World} {K : Act → World → Prop} {Q : Exit → Act → World → Prop} {E : Prop} (hg : o.guard = none) (s x : Operand) (t tn : TypeId)
    (ho : o.op = .call { callee := .builtin .append, args := #[s, x], argTypes := #[t, tn] }) (vs vx : Value) (hs : a.eval s = vs) (hx : a.eval x = vx)
    (v' : Value) (w' : World) (hr : (Builtin.append_ #[t, tn] o.type #[vs, vx]).run P w = .ok v' w') (h : K (a.put o.dst v') w') : if Region.wanted o (yielded ops a.tmps) = true then Oper.wp P o a w K Q else E := by
  have hw : Region.wanted o (yielded ops a.tmps) = true := by simp [Region.wanted, hg]
  rw [if_pos hw]
  exact wp_append_runs w s x t tn ho vs vx hs hx v' w' hr h
/-- A slice that reads as a list of actors. -/
def Acs (w : World) (B : Nat) (A : Option Addr) (L : List Ac) : Prop := Rd w B 2 A L.length (L.flatMap acC)
theorem Acs.below {w w' : World} {B : Nat} {A : Option Addr} {L : List Ac} (h : Acs w B A L) (hb : Below B w w') : Acs w' B A L := Rd.below h hb
theorem acC_len (a : Ac) : (acC a).length = 2 := rfl
theorem acs_get {L : List Ac} {i : Nat} {x : Ac} (h : L[i]? = some x) : (L.flatMap acC)[i * 2]? = some (.int .i64 x.1) ∧ (L.flatMap acC)[i * 2 + 1]? = some (.int .i64 x.2) := by
  have e := flatMap_at acC 2 acC_len L
  rw [e, e, show i * 2 / 2 = i by omega, show (i * 2 + 1) / 2 = i by omega, show i * 2 % 2 = 0 by omega, show (i * 2 + 1) % 2 = 1 by omega, h]
  exact ⟨rfl, rfl⟩
theorem Acs.at_ {w : World} {B i : Nat} {A : Option Addr} {L : List Ac} {x : Ac} (h : Acs w B A L) (hx : L[i]? = some x) : ∃ b o, A = some ⟨b, o, none⟩ ∧ b < B ∧ w.cell? ⟨b, o + i * 2, none⟩ = some (.int .i64 x.1) ∧ w.cell? ⟨b, o + i * 2 + 1, none⟩ = some (.int .i64 x.2) := by
  have hi : i < L.length := (List.getElem?_eq_some_iff.1 hx).1
  obtain ⟨b, o, hA, hb, hc⟩ := h.2 (by omega)
  obtain ⟨e0, e1⟩ := acs_get hx
  exact ⟨b, o, hA, hb, hc _ _ e0, by rw [Nat.add_assoc]; exact hc _ _ e1⟩
theorem info_mk : (Tryz.prog.info? 111).map (fun i => (i.zero, i.size, i.bytes)) = some (some (.agg #[.int .i64 0, .int .i64 0, .int .i64 0]), 3, 24) := by kernel_rfl
/-- 'append' on marks, as a run. -/
theorem appM (w : World) (base : Nat) (A : Option Addr) (n c : Nat) (xs : List Value) (hown : Own w base 111 3 A n c xs) (B : Nat) (A' : Option Addr) (m c' : Nat) (news : List Value) (hr : Rd w B 3 A' m news) (h1 : ∀ u ∈ news, u.oneCell' = true) (hlen : n + m ≤ 4000000000) (hbase : base ≤ w.heap.size) :
    ∃ A2 c2 w', (Builtin.append_ #[27, 27] 27 #[.slice A n c, .slice A' m c']).run Tryz.prog w = .ok (.slice A2 (n + m) c2) w' ∧ Own w' base 111 3 A2 (n + m) c2 (xs ++ news) ∧ w.grownBy w' (bl A) ∧ Near w A A2 := by
  obtain ⟨i0, hi, hz0, hz1, hz2⟩ := info_parts info_mk
  exact run_append_rdn (P := Tryz.prog) w 27 27 base 111 i0 (.agg #[.int .i64 0, .int .i64 0, .int .i64 0]) 3 24 Tryz.underlying27 hi hz0 hz1 hz2 rfl (by decide) (by decide) A n c xs hown B A' m c' news hr h1 (by omega) hbase
theorem Own.bl_lo {w : World} {base size n c : Nat} {e : TypeId} {A : Option Addr} {xs : List Value} (h : Own w base e size A n c xs) : ∀ k, bl A = some k → base ≤ k := fun k hk => (h.block_lt k (by rw [ownBlock_bl]; exact hk)).1
/-- One mark appended, laid in a block of its own ahead of it. -/
theorem app1 (w : World) (base : Nat) (A : Option Addr) (n c : Nat) (L : List Dt) (hl : L.length = n) (hown : Own w base 111 3 A n c (dts L)) (x : Dt) (hlen : n ≤ 3000000000) (hbase : base ≤ w.heap.size) :
    ∃ A2 c2 w', (Builtin.append_ #[27, 27] 27 #[.slice A n c, .slice (some ⟨w.heap.size, 0, none⟩) 1 1]).run Tryz.prog (w.alloc (.cells #[.int .i64 x.1.1, .int .i64 x.1.2, .int .i64 x.2] 111)) = .ok (.slice A2 (n + 1) c2) w' ∧ Own w' base 111 3 A2 (n + 1) c2 (dts (L ++ [x])) ∧
      Ch (fun k => some k = bl A) w w' ∧ Below base w w' := by
  have hr : Rd (w.alloc (.cells #[.int .i64 x.1.1, .int .i64 x.1.2, .int .i64 x.2] 111)) (w.heap.size + 1) 3 (some ⟨w.heap.size, 0, none⟩) 1 (dtC x) :=
    ⟨rfl, fun _ => ⟨_, _, rfl, by omega, fun j u hu => by rw [(Whole.new w 111 #[.int .i64 x.1.1, .int .i64 x.1.2, .int .i64 x.2]).cell, Nat.zero_add, ← Array.getElem?_toList]; exact hu⟩⟩
  obtain ⟨A2, c2, w', q, o, g, _⟩ := appM (w.alloc (.cells #[.int .i64 x.1.1, .int .i64 x.1.2, .int .i64 x.2] 111)) base A n c (dts L) (hown.alloc _) (w.heap.size + 1) _ 1 1 (dtC x) hr (by intro u hu; simp [dtC] at hu; rcases hu with rfl | rfl | rfl <;> rfl) (by omega) (by simp; omega)
  refine ⟨A2, c2, w', q, ?_, ?_, ?_⟩
  · have e : dts (L ++ [x]) = dts L ++ dtC x := by simp [dts]
    rw [e]; exact o
  · exact (Ch.alloc_ _ w _).trans (grown_ch g) (fun k _ h => h)
  · exact ((Below.refl base w).alloc hbase _).grown g (by simp; omega) hown.bl_lo
end Go.Proofs.YtpakmeegldgjmaaGreat
/- Layer 17 (vector): Join, Copy. -/
namespace Go.Proofs.YtpakmeegldgjmaaGreat
open Go.RowKit
set_option linter.unusedVariables false
set_option maxRecDepth 100000
attribute [local go_sem ↓] Go.wp_at_zero Go.wp_at_succ

theorem Acs.ch {S : Nat → Prop} {w w' : World} {B : Nat} {A : Option Addr} {L : List Ac} (r : Acs w B A L) (hB : B ≤ w.heap.size) (h : Ch S w w') (hS : ∀ k, k < B → bl A = some k → ¬ S k) : Acs w' B A L := Rd.ch r hB h hS
end Go.Proofs.YtpakmeegldgjmaaGreat
/- Layer 17 (vector): Meet, Covers, Sum. -/
namespace Go.Proofs.YtpakmeegldgjmaaGreat
open Go.RowKit
set_option linter.unusedVariables false
set_option maxRecDepth 100000
attribute [local go_sem ↓] Go.wp_at_zero Go.wp_at_succ

theorem VecAt.keep {w w' : World} {p : Option Addr} {M : List Dt} (h : VecAt w p M) (hb : Below w.heap.size w w') : VecAt w' p M := h.up hb
/-- Two whole numbers in block N. -/
def C2 (N : Nat) (d i : Int) (W : World) : Prop := W.cell? ⟨N, 0, none⟩ = some (.int .i64 d) ∧ W.cell? ⟨N, 1, none⟩ = some (.int .i64 i)
end Go.Proofs.YtpakmeegldgjmaaGreat
/- Merged: Y8, Y9, Y10. -/
/- Layer 17, the document's marks: Same, Get, Has, Set. -/
namespace Go.Proofs.YtpakmeegldgjmaaGreat
open Go.RowKit
set_option linter.unusedVariables false
set_option maxRecDepth 100000
attribute [local go_sem ↓] Go.wp_at_zero Go.wp_at_succ

end Go.Proofs.YtpakmeegldgjmaaGreat
/- Layer 17, the document's marks: Set. -/
namespace Go.Proofs.YtpakmeegldgjmaaGreat
open Go.RowKit
set_option linter.unusedVariables false
set_option maxRecDepth 100000
attribute [local go_sem ↓] Go.wp_at_zero Go.wp_at_succ

/-- What the loop has. -/
def SetI (w wr : World) (N : Nat) (d1 d2 : Int) (A3 : Option Addr) (c3 : Nat) (S : List Dt) : Prop :=
  Own wr (N + 1) 111 3 A3 S.length c3 (dts S) ∧ Whole wr N 48 #[.int .i64 d1, .int .i64 d2] ∧ Below N w wr
theorem SetI.up {w wr w' : World} {N : Nat} {d1 d2 : Int} {A3 : Option Addr} {c3 : Nat} {S : List Dt} (h : SetI w wr N d1 d2 A3 c3 S) (b : Below wr.heap.size wr w') : SetI w w' N d1 d2 A3 c3 S :=
  ⟨h.1.below b (Nat.le_refl _), h.2.1.below b h.2.1.lt, h.2.2.trans (below_of_le b (Nat.le_of_lt h.2.1.lt))⟩
theorem SetI.app {w wr : World} {N : Nat} {d1 d2 : Int} {A3 : Option Addr} {c3 : Nat} {S : List Dt} (h : SetI w wr N d1 d2 A3 c3 S) (x : Dt) (hl : S.length ≤ 3000000000) :
    ∃ A2 c2 w', (Builtin.append_ #[27, 27] 27 #[.slice A3 S.length c3, .slice (some ⟨wr.heap.size, 0, none⟩) 1 1]).run Tryz.prog (wr.alloc (.cells #[.int .i64 x.1.1, .int .i64 x.1.2, .int .i64 x.2] 111)) = .ok (.slice A2 (S.length + 1) c2) w' ∧ SetI w w' N d1 d2 A2 c2 (S ++ [x]) := by
  have hlt := h.2.1.lt
  obtain ⟨A2, c2, w', q, o, ch, b⟩ := app1 wr (N + 1) A3 S.length c3 S rfl h.1 x hl (by omega)
  refine ⟨A2, c2, w', q, by simpa using o, h.2.1.ch ch (fun e => ?_), h.2.2.trans (below_of_le b (by omega))⟩
  have := h.1.bl_lo N e.symm
  omega
end Go.Proofs.YtpakmeegldgjmaaGreat
/- Layer 17, the document's marks: Has, Raise, Take, Join, Meet, Covers. -/
namespace Go.Proofs.YtpakmeegldgjmaaGreat
open Go.RowKit
set_option linter.unusedVariables false
set_option maxRecDepth 100000
attribute [local go_sem ↓] Go.wp_at_zero Go.wp_at_succ

/-- A slice of marks, whosever. -/
def MsAt (w : World) (A : Option Addr) (L : List Dt) : Prop := Ds w w.heap.size A L
theorem MsAt.up {w w' : World} {A : Option Addr} {L : List Dt} (h : MsAt w A L) (b : Below w.heap.size w w') : MsAt w' A L := (Ds.below h b).more b.size
theorem MsAt.of {w : World} {B : Nat} {A : Option Addr} {L : List Dt} (h : Ds w B A L) (hB : B ≤ w.heap.size) : MsAt w A L := h.more hB
theorem MsAt.own {w : World} {base c : Nat} {e : TypeId} {A : Option Addr} {L : List Dt} (h : Own w base e 3 A L.length c (dts L)) : MsAt w A L := h.ds
end Go.Proofs.YtpakmeegldgjmaaGreat
/- Merged: Y11, Y12, Y13. -/
/- Layer 17, the document's marks: Take, Join, Meet, Covers. -/
namespace Go.Proofs.YtpakmeegldgjmaaGreat
open Go.RowKit
set_option linter.unusedVariables false
set_option maxRecDepth 100000
attribute [local go_sem ↓] Go.wp_at_zero Go.wp_at_succ

end Go.Proofs.YtpakmeegldgjmaaGreat
/- Layer 17, the document's marks: Meet, Covers. -/
namespace Go.Proofs.YtpakmeegldgjmaaGreat
open Go.RowKit
set_option linter.unusedVariables false
set_option maxRecDepth 100000
attribute [local go_sem ↓] Go.wp_at_zero Go.wp_at_succ

end Go.Proofs.YtpakmeegldgjmaaGreat
/- Layer 17 (vector): awake, made. -/
namespace Go.Proofs.YtpakmeegldgjmaaGreat
open Go.RowKit
set_option linter.unusedVariables false
set_option maxRecDepth 100000
attribute [local go_sem ↓] Go.wp_at_zero Go.wp_at_succ

theorem MsAt.ch {S : Nat → Prop} {w w' : World} {A : Option Addr} {L : List Dt} (h : MsAt w A L) (hc : Ch S w w') (hS : ∀ k, bl A = some k → ¬ S k) : MsAt w' A L :=
  Ds.more (show Ds w' w.heap.size A L from Rd.ch h (Nat.le_refl _) hc (fun k _ hk => hS k hk)) hc.size
end Go.Proofs.YtpakmeegldgjmaaGreat
/- Merged: Y18, Y19, Y20. -/
/- Layer 17 (vector): Check, and the document's. -/
namespace Go.Proofs.YtpakmeegldgjmaaGreat
open Go.RowKit
set_option linter.unusedVariables false
set_option maxRecDepth 100000
attribute [local go_sem ↓] Go.wp_at_zero Go.wp_at_succ

/-- Is an actor not ahead of the next one? -/
def badP : Option Ac → Ac → Bool
  | none, _ => false
  | some q, a => !aLt q a
/-- Why marks may not be; 0 where they may. -/
def chkG : Option Ac → List Dt → Int
  | _, [] => 0
  | p, x :: r => if rightD x = false then 4 else if badP p x.1 = true then 6 else chkG (some x.1) r
theorem chkG_cons (p : Option Ac) (x : Dt) (r : List Dt) : chkG p (x :: r) = if rightD x = false then 4 else if badP p x.1 = true then 6 else chkG (some x.1) r := by
  cases p <;> rfl
def chkE (L : List Dt) : Int := if 4096 < L.length then 3 else chkG none L
theorem chkG_vw {p : Option Ac} {L : List Dt} (h : chkG p L = 0) : (∀ x ∈ L, rightD x = true) ∧ Srt L ∧ ∀ a, p = some a → ∀ x ∈ L, aLt a x.1 = true := by
  induction L generalizing p with
  | nil => exact ⟨by simp, List.Pairwise.nil, by simp⟩
  | cons x r ih =>
    rw [chkG_cons] at h
    by_cases h1 : rightD x = false
    · rw [if_pos h1] at h; cases h
    · rw [if_neg h1] at h
      by_cases h2 : badP p x.1 = true
      · rw [if_pos h2] at h; cases h
      · rw [if_neg h2] at h
        obtain ⟨i1, i2, i3⟩ := ih h
        refine ⟨?_, List.pairwise_cons.2 ⟨fun y hy => i3 x.1 rfl y hy, i2⟩, ?_⟩
        · intro y hy
          rcases List.mem_cons.1 hy with rfl | hy
          · simpa using h1
          · exact i1 y hy
        · intro a ha y hy
          cases ha
          have h3 : aLt a x.1 = true := by simpa [badP] using h2
          rcases List.mem_cons.1 hy with rfl | hy
          · exact h3
          · exact aLt_trans h3 (i3 x.1 rfl y hy)
theorem chkE_vw {L : List Dt} (h : chkE L = 0) : Vw L ∧ L.length ≤ 4096 := by
  unfold chkE at h
  split at h
  · cases h
  · exact ⟨⟨(chkG_vw h).2.1, (chkG_vw h).1⟩, by omega⟩
theorem chkG_of {p : Option Ac} {L : List Dt} (h1 : ∀ x ∈ L, rightD x = true) (h2 : Srt L) (h3 : ∀ a, p = some a → ∀ x ∈ L, aLt a x.1 = true) : chkG p L = 0 := by
  induction L generalizing p with
  | nil => cases p <;> rfl
  | cons x r ih =>
    have hs := List.pairwise_cons.1 h2
    have e2 : badP p x.1 = false := by
      cases p with
      | none => rfl
      | some a => simp only [badP, h3 a rfl x (List.mem_cons_self ..), Bool.not_true]
    rw [chkG_cons, h1 x (List.mem_cons_self ..), e2, if_neg (by simp), if_neg (by simp)]
    exact ih (fun y hy => h1 y (List.mem_cons_of_mem _ hy)) hs.2 (fun a ha y hy => by cases ha; exact hs.1 y hy)
theorem Vw.chk {L : List Dt} (h : Vw L) (hl : L.length ≤ 4096) : chkE L = 0 := by
  unfold chkE
  rw [if_neg (by omega)]
  exact chkG_of h.2 h.1 (by simp)
def prevA (L : List Dt) (j : Nat) : Option Ac := if j = 0 then none else (L[j - 1]?).map (·.1)
theorem chk_step {L : List Dt} {j : Nat} {x : Dt} (hx : L[j]? = some x) : chkG (prevA L j) (L.drop j) = (if rightD x = false then 4 else if badP (prevA L j) x.1 = true then 6 else chkG (prevA L (j + 1)) (L.drop (j + 1))) := by
  obtain ⟨hi, he⟩ := List.getElem?_eq_some_iff.1 hx
  rw [List.drop_eq_getElem_cons hi, he]
  have : prevA L (j + 1) = some x.1 := by
    unfold prevA
    rw [if_neg (by omega), Nat.add_sub_cancel, hx]
    rfl
  rw [this, chkG_cons]
theorem cmp_aLt (a b : Ac) : decide (0 ≤ orI (cmpI a.1 b.1) (cmpI a.2 b.2)) = !aLt a b := by
  rw [Bool.eq_iff_iff]
  simp only [decide_eq_true_eq, Bool.not_eq_true', aLt, decide_eq_false_iff_not]
  unfold orI cmpI
  repeat' split
  all_goals omega
theorem prevA_of {L : List Dt} {j : Nat} {y : Dt} (hj : 0 < j) (hy : L[j - 1]? = some y) : prevA L j = some y.1 := by
  unfold prevA
  rw [if_neg (by omega), hy]
  rfl
end Go.Proofs.YtpakmeegldgjmaaGreat
/- Layer 17 (vector): Check, Of. -/
namespace Go.Proofs.YtpakmeegldgjmaaGreat
open Go.RowKit
set_option linter.unusedVariables false
set_option maxRecDepth 100000
attribute [local go_sem ↓] Go.wp_at_zero Go.wp_at_succ

set_option maxHeartbeats 2000000 in
theorem vccheck_any (w : World) (A : Option Addr) (c : Nat) (L : List Dt) (hr : MsAt w A L) (hn : L.length ≤ 9223372036854775807) :
    Calls Tryz.prog 60 #[.slice A L.length c] w fun e w' => e = .returned (.int .i64 (chkE L)) ∧ Below w.heap.size w w' := by
  have CR := Lib.hid (fun a n w => vcright_any a n w)
  have CA := Lib.hid (fun d i d' i' w => compare_any d i d' i' w)
  have HR := Lib.hid hr
  by_cases hlong : 4096 < L.length
  · have hE : chkE L = 3 := by unfold chkE; rw [if_pos hlong]
    rw [hE]
    have B0 := Lib.hid (Below.refl w.heap.size w)
    clear hr hE
    generalize L.length = n at *
    go_enter Tryz.func60, Tryz.ntmps60
    go_wp2
    go_ret
    exact ⟨rfl, B0.out⟩
  · have hE : chkE L = chkG none L := by unfold chkE; rw [if_neg hlong]
    rw [hE]
    generalize hlen : L.length = n at *
    have HL := Lib.hid hlen
    have B0 := Lib.hid (Below.refl w.heap.size w)
    generalize hN : w.heap.size = N at *
    unfold acV at CR
    unfold actV at CA
    have hn4 : n ≤ 4096 := by omega
    clear hr hE hlen hlong
    go_enter Tryz.func60, Tryz.ntmps60
    go_wp2_with fail
    go_loopw [10] (fun i wr => ∃ (j : Nat), j ≤ n ∧ i = .int .i64 j ∧ chkG none L = chkG (prevA L j) (L.drop j) ∧ Below N w wr) (fun i _ => n - (intOf i).toNat)
    case atStart => exact ⟨0, by omega, rfl, rfl, B0.out⟩
    case round =>
      obtain ⟨j, hj, rfl, hchk, hb⟩ := hrel
      have HM := Lib.hid (And.intro hchk hb)
      clear hchk hb B0
      by_cases hlt : j < n
      · obtain ⟨x, hx⟩ : ∃ x, L[j]? = some x := ⟨L[j]'(by have := HL.out; omega), List.getElem?_eq_getElem _⟩
        obtain ⟨b0, o0, hA, hb0, k0, k1, k2⟩ := (Ds.below (hN ▸ HR.out : Ds w N A L) HM.out.2).at_ hx
        have hst := Lib.hid (HM.out.1.trans (chk_step hx))
        have hNr : N ≤ wr.heap.size := by have := HM.out.2.size; omega
        obtain ⟨⟨d, i⟩, s⟩ := x
        simp only at k0 k1 k2
        have HC := Lib.hid (C3.new wr d i s 111)
        have HB4 := Lib.hid (HM.out.2.alloc hNr (.cells #[.int .i64 d, .int .i64 i, .int .i64 s] 111))
        have hs4 : (wr.alloc (.cells #[.int .i64 d, .int .i64 i, .int .i64 s] 111)).heap.size = wr.heap.size + 1 := by simp
        have HS4 := Lib.hid hs4
        have CX := Lib.hid (fun w => CR.out (d, i) s w)
        clear hx hs4
        subst hA
        cases hr : rightD ((d, i), s)
        · rw [hr] at CX
          have hE := Lib.hid (show chkG none L = 4 by rw [hst.out, hr]; rfl)
          clear hr
          go_wp2_with fail
          generalize hP : wr.heap.size = P at *
          generalize (wr.alloc (.cells #[.int .i64 d, .int .i64 i, .int .i64 s] 111)) = W4 at *
          obtain ⟨l0, l1, l2⟩ := HC.out
          have hsz4 := HS4.out
          refine (CX.out _).mono ?_; rintro e w5 ⟨rfl, b5⟩
          have HB := Lib.hid (HB4.out.trans (below_of_le b5 (by omega)))
          clear b5 l0 l1 l2
          go_wp2
          go_ret
          exact ⟨ret_int hE.out.symm, HB.out⟩
        · rw [hr] at CX
          have hst2 := Lib.hid (show chkG none L = if badP (prevA L j) (d, i) = true then 6 else chkG (prevA L (j + 1)) (L.drop (j + 1)) by rw [hst.out, hr]; rfl)
          clear hr
          go_wp2_with fail
          generalize hP : wr.heap.size = P at *
          generalize (wr.alloc (.cells #[.int .i64 d, .int .i64 i, .int .i64 s] 111)) = W4 at *
          have hsz4 := HS4.out
          refine (CX.out _).mono ?_; rintro e w5 ⟨rfl, b5⟩
          have HB := Lib.hid (And.intro (HB4.out.trans (below_of_le b5 (by omega))) (HC.out.up (by omega) b5))
          have hN5 : P < w5.heap.size := by have := b5.size; omega
          clear b5 k0 k1 k2 hsz4 HS4 HC HB4
          by_cases hj0 : j = 0
          · subst hj0
            have hnx := Lib.hid (show chkG none L = chkG (prevA L (0 + 1)) (L.drop (0 + 1)) by rw [hst2.out]; rfl)
            go_wp2_with fail
            refine wp_region_held_drew (S := (fun _ => True)) (by kernel_rfl) ?_ (fun hHeld => ?_)
            · (try dsimp only); try trivial
            refine wpAnyH_take (i := 0) (v := ?_) rfl (by kernel_rfl) (by kernel_rfl) (by kernel_rfl) (fun _ _ _ h => h) (Or.inl ⟨by rfl, ?_⟩) (by assumption) ?_
            rotate_left
            first | (focus ((intro w hSw; (try dsimp only at hSw); go_simp); (try with_reducible rfl); done)) | fail
            try simp only [Act.put, List.getElem_toArray, List.getElem_cons_zero, List.setIfInBounds_toArray, List.set_cons_zero, List.set_cons_succ]
            refine wpAnyH_take (i := 1) (v := ?_) rfl (by kernel_rfl) (by kernel_rfl) (by kernel_rfl) (fun _ _ _ h => h) (Or.inl ⟨by rfl, ?_⟩) (by assumption) ?_
            rotate_left
            first | (focus ((intro w hSw; (try dsimp only at hSw); go_simp); (try with_reducible rfl); done)) | fail
            try simp only [Act.put, List.getElem_toArray, List.getElem_cons_zero, List.getElem_cons_succ, List.setIfInBounds_toArray, List.set_cons_zero, List.set_cons_succ]
            refine wpAnyH_take (i := 2) (v := ?_) rfl (by kernel_rfl) (by kernel_rfl) (by kernel_rfl) (fun _ _ _ h => h) (Or.inl ⟨by rfl, ?_⟩) (by assumption) ?_
            rotate_left
            first | (focus ((intro w hSw; (try dsimp only at hSw); go_simp); (try with_reducible rfl); done)) | fail
            try simp only [Act.put, List.getElem_toArray, List.getElem_cons_zero, List.getElem_cons_succ, List.setIfInBounds_toArray, List.set_cons_zero, List.set_cons_succ]
            refine wpAnyH_take (i := 3) (v := undef) rfl (by kernel_rfl) (by kernel_rfl) (by kernel_rfl) (fun _ _ _ h => h) (Or.inr ⟨by rfl, rfl⟩) (by assumption) ?_
            try simp only [Act.put, List.getElem_toArray, List.getElem_cons_zero, List.getElem_cons_succ, List.setIfInBounds_toArray, List.set_cons_zero, List.set_cons_succ]
            refine wpAnyH_take (i := 4) (v := undef) rfl (by kernel_rfl) (by kernel_rfl) (by kernel_rfl) (fun _ _ _ h => h) (Or.inr ⟨by rfl, rfl⟩) (by assumption) ?_
            try simp only [Act.put, List.getElem_toArray, List.getElem_cons_zero, List.getElem_cons_succ, List.setIfInBounds_toArray, List.set_cons_zero, List.set_cons_succ]
            refine wpAnyH_take (i := 5) (v := undef) rfl (by kernel_rfl) (by kernel_rfl) (by kernel_rfl) (fun _ _ _ h => h) (Or.inr ⟨by rfl, rfl⟩) (by assumption) ?_
            try simp only [Act.put, List.getElem_toArray, List.getElem_cons_zero, List.getElem_cons_succ, List.setIfInBounds_toArray, List.set_cons_zero, List.set_cons_succ]
            refine wpAnyH_take (i := 6) (v := undef) rfl (by kernel_rfl) (by kernel_rfl) (by kernel_rfl) (fun _ _ _ h => h) (Or.inr ⟨by rfl, rfl⟩) (by assumption) ?_
            try simp only [Act.put, List.getElem_toArray, List.getElem_cons_zero, List.getElem_cons_succ, List.setIfInBounds_toArray, List.set_cons_zero, List.set_cons_succ]
            refine wpAnyH_take (i := 7) (v := undef) rfl (by kernel_rfl) (by kernel_rfl) (by kernel_rfl) (fun _ _ _ h => h) (Or.inr ⟨by rfl, rfl⟩) (by assumption) ?_
            try simp only [Act.put, List.getElem_toArray, List.getElem_cons_zero, List.getElem_cons_succ, List.setIfInBounds_toArray, List.set_cons_zero, List.set_cons_succ]
            refine wpAnyH_take (i := 8) (v := undef) rfl (by kernel_rfl) (by kernel_rfl) (by kernel_rfl) (fun _ _ _ h => h) (Or.inr ⟨by rfl, rfl⟩) (by assumption) ?_
            try simp only [Act.put, List.getElem_toArray, List.getElem_cons_zero, List.getElem_cons_succ, List.setIfInBounds_toArray, List.set_cons_zero, List.set_cons_succ]
            refine wpAnyH_take (i := 9) (v := undef) rfl (by kernel_rfl) (by kernel_rfl) (by kernel_rfl) (fun _ _ _ h => h) (Or.inr ⟨by rfl, rfl⟩) (by assumption) ?_
            try simp only [Act.put, List.getElem_toArray, List.getElem_cons_zero, List.getElem_cons_succ, List.setIfInBounds_toArray, List.set_cons_zero, List.set_cons_succ]
            refine wpAnyH_take (i := 10) (v := undef) rfl (by kernel_rfl) (by kernel_rfl) (by kernel_rfl) (fun _ _ _ h => h) (Or.inr ⟨by rfl, rfl⟩) (by assumption) ?_
            try simp only [Act.put, List.getElem_toArray, List.getElem_cons_zero, List.getElem_cons_succ, List.setIfInBounds_toArray, List.set_cons_zero, List.set_cons_succ]
            refine wpAnyH_take (i := 11) (v := undef) rfl (by kernel_rfl) (by kernel_rfl) (by kernel_rfl) (fun _ _ _ h => h) (Or.inr ⟨by rfl, rfl⟩) (by assumption) ?_
            try simp only [Act.put, List.getElem_toArray, List.getElem_cons_zero, List.getElem_cons_succ, List.setIfInBounds_toArray, List.set_cons_zero, List.set_cons_succ]
            refine wpAnyH_take (i := 12) (v := undef) rfl (by kernel_rfl) (by kernel_rfl) (by kernel_rfl) (fun _ _ _ h => h) (Or.inr ⟨by rfl, rfl⟩) (by assumption) ?_
            try simp only [Act.put, List.getElem_toArray, List.getElem_cons_zero, List.getElem_cons_succ, List.setIfInBounds_toArray, List.set_cons_zero, List.set_cons_succ]
            refine wpAnyH_take (i := 13) (v := ?_) rfl (by kernel_rfl) (by kernel_rfl) (by kernel_rfl) (fun _ _ _ h => h) (Or.inl ⟨by rfl, ?_⟩) (by assumption) ?_
            rotate_left
            first | (focus ((intro w hSw; (try dsimp only at hSw); go_simp); (try with_reducible rfl); done)) | fail
            try simp only [Act.put, List.getElem_toArray, List.getElem_cons_zero, List.getElem_cons_succ, List.setIfInBounds_toArray, List.set_cons_zero, List.set_cons_succ]
            refine wpAnyH_take (i := 14) (v := ?_) rfl (by kernel_rfl) (by kernel_rfl) (by kernel_rfl) (fun _ _ _ h => h) (Or.inl ⟨by rfl, ?_⟩) (by assumption) ?_
            rotate_left
            first | (focus ((intro w hSw; (try dsimp only at hSw); go_simp); (try with_reducible rfl); done)) | fail
            try simp only [Act.put, List.getElem_toArray, List.getElem_cons_zero, List.getElem_cons_succ, List.setIfInBounds_toArray, List.set_cons_zero, List.set_cons_succ]
            refine wpAnyH_done (by kernel_rfl) ?_ _
            go_wp2
            go_roundw
            case rel => exact ⟨0 + 1, by omega, by go_num, hnx.out, HB.out.1.drew⟩
            case measure => simp [intOf]; omega
          · obtain ⟨y, hy⟩ : ∃ y, L[j - 1]? = some y := ⟨L[j - 1]'(by have := HL.out; omega), List.getElem?_eq_getElem _⟩
            obtain ⟨b1, o1, hA1, hb1, l0, l1, l2⟩ := (Ds.below (hN ▸ HR.out : Ds w N (some ⟨b0, o0, none⟩) L) HB.out.1).at_ hy
            cases hA1
            obtain ⟨⟨y1, y2⟩, y3⟩ := y
            have hpa := prevA_of (by omega) hy
            have hbp : badP (prevA L j) (d, i) = !aLt (y1, y2) (d, i) := by rw [hpa]; rfl
            have hal : decide (0 ≤ orI (cmpI y1 d) (cmpI y2 i)) = !aLt (y1, y2) (d, i) := cmp_aLt (y1, y2) (d, i)
            have CY := Lib.hid (fun w => CA.out y1 y2 d i w)
            have hst3 := Lib.hid (show chkG none L = if (!aLt (y1, y2) (d, i)) = true then 6 else chkG (prevA L (j + 1)) (L.drop (j + 1)) by rw [hst2.out, hbp])
            generalize aLt (y1, y2) (d, i) = lt at *
            generalize orI (cmpI y1 d) (cmpI y2 i) = z at *
            have HL5 := Lib.hid (And.intro l0 l1)
            obtain ⟨j', rfl⟩ : ∃ j', j = j' + 1 := ⟨j - 1, by omega⟩
            rw [Nat.add_sub_cancel] at HL5
            have hw1 : IntKind.i64.wrap (j' : Int) = (j' : Int) := by rw [IntKind.wrap_i64]; omega
            have hj1 : (0 : Int) ≤ (j' : Int) := by omega
            have hj2 : (j' : Int) < (n : Int) := by omega
            clear hy l0 l1 l2 hpa hbp
            cases lt
            · have hE := Lib.hid (show chkG none L = 6 by rw [hst3.out]; rfl)
              have hal' : decide (0 ≤ z) = true := by rw [hal]; rfl
              clear hal
              go_wp2_with fail
              refine wp_region_held_drew (S := (fun W => W.cell? ⟨P, 0, none⟩ = some (.int .i64 d) ∧ W.cell? ⟨P, 1, none⟩ = some (.int .i64 i) ∧ W.cell? ⟨b0, o0 + j' * 3, none⟩ = some (.int .i64 y1) ∧ W.cell? ⟨b0, o0 + j' * 3 + 1, none⟩ = some (.int .i64 y2))) (by kernel_rfl) ?_ (fun hHeld => ?_)
              · (try dsimp only); exact ⟨HB.out.2.1, HB.out.2.2.1, HL5.out.1, HL5.out.2⟩
              refine wpAnyH_take (i := 0) (v := ?_) rfl (by kernel_rfl) (by kernel_rfl) (by kernel_rfl) (fun _ _ _ h => h) (Or.inl ⟨by rfl, ?_⟩) (by assumption) ?_
              rotate_left
              first | (focus ((intro w hSw; (try dsimp only at hSw); go_simp); (try with_reducible rfl); done)) | fail
              try simp only [Act.put, List.getElem_toArray, List.getElem_cons_zero, List.setIfInBounds_toArray, List.set_cons_zero, List.set_cons_succ]
              refine wpAnyH_take (i := 1) (v := ?_) rfl (by kernel_rfl) (by kernel_rfl) (by kernel_rfl) (fun _ _ _ h => h) (Or.inl ⟨by rfl, ?_⟩) (by assumption) ?_
              rotate_left
              first | (focus ((intro w hSw; (try dsimp only at hSw); go_simp); (try with_reducible rfl); done)) | fail
              try simp only [Act.put, List.getElem_toArray, List.getElem_cons_zero, List.getElem_cons_succ, List.setIfInBounds_toArray, List.set_cons_zero, List.set_cons_succ]
              refine wpAnyH_take (i := 2) (v := ?_) rfl (by kernel_rfl) (by kernel_rfl) (by kernel_rfl) (fun _ _ _ h => h) (Or.inl ⟨by rfl, ?_⟩) (by assumption) ?_
              rotate_left
              first | (focus ((intro w hSw; (try dsimp only at hSw); go_simp); (try with_reducible rfl); done)) | fail
              try simp only [Act.put, List.getElem_toArray, List.getElem_cons_zero, List.getElem_cons_succ, List.setIfInBounds_toArray, List.set_cons_zero, List.set_cons_succ]
              refine wpAnyH_take (i := 3) (v := ?_) rfl (by kernel_rfl) (by kernel_rfl) (by kernel_rfl) (fun _ _ _ h => h) (Or.inl ⟨by rfl, ?_⟩) (by assumption) ?_
              rotate_left
              first | (focus ((intro w hSw; (try dsimp only at hSw); go_simp); (try with_reducible rfl); done)) | fail
              try simp only [Act.put, List.getElem_toArray, List.getElem_cons_zero, List.getElem_cons_succ, List.setIfInBounds_toArray, List.set_cons_zero, List.set_cons_succ]
              refine wpAnyH_take (i := 4) (v := ?_) rfl (by kernel_rfl) (by kernel_rfl) (by kernel_rfl) (fun _ _ _ h => h) (Or.inl ⟨by rfl, ?_⟩) (by assumption) ?_
              rotate_left
              first | (focus ((intro w hSw; (try dsimp only at hSw); go_simp); (try with_reducible rfl); done)) | fail
              try simp only [Act.put, List.getElem_toArray, List.getElem_cons_zero, List.getElem_cons_succ, List.setIfInBounds_toArray, List.set_cons_zero, List.set_cons_succ]
              refine wpAnyH_take (i := 5) (v := ?_) rfl (by kernel_rfl) (by kernel_rfl) (by kernel_rfl) (fun _ _ _ h => h) (Or.inl ⟨by rfl, ?_⟩) (by assumption) ?_
              rotate_left
              first | (focus ((intro w hSw; (try dsimp only at hSw); go_simp); (try with_reducible rfl); done)) | fail
              try simp only [Act.put, List.getElem_toArray, List.getElem_cons_zero, List.getElem_cons_succ, List.setIfInBounds_toArray, List.set_cons_zero, List.set_cons_succ]
              refine wpAnyH_take (i := 6) (v := ?_) rfl (by kernel_rfl) (by kernel_rfl) (by kernel_rfl) (fun _ _ _ h => h) (Or.inl ⟨by rfl, ?_⟩) (by assumption) ?_
              rotate_left
              first | (focus ((intro w hSw; (try dsimp only at hSw); go_simp); (try with_reducible rfl); done)) | fail
              try simp only [Act.put, List.getElem_toArray, List.getElem_cons_zero, List.getElem_cons_succ, List.setIfInBounds_toArray, List.set_cons_zero, List.set_cons_succ]
              refine wpAnyH_take (i := 7) (v := ?_) rfl (by kernel_rfl) (by kernel_rfl) (by kernel_rfl) (fun _ _ _ h => h) (Or.inl ⟨by rfl, ?_⟩) (by assumption) ?_
              rotate_left
              first | (focus ((intro w hSw; (try dsimp only at hSw); go_simp); (try with_reducible rfl); done)) | fail
              try simp only [Act.put, List.getElem_toArray, List.getElem_cons_zero, List.getElem_cons_succ, List.setIfInBounds_toArray, List.set_cons_zero, List.set_cons_succ]
              refine wpAnyH_take (i := 8) (v := ?_) rfl (by kernel_rfl) (by kernel_rfl) (by kernel_rfl) (fun _ _ _ h => h) (Or.inl ⟨by rfl, ?_⟩) (by assumption) ?_
              rotate_left
              first | (focus ((intro w hSw; (try dsimp only at hSw); go_simp); (try with_reducible rfl); done)) | fail
              try simp only [Act.put, List.getElem_toArray, List.getElem_cons_zero, List.getElem_cons_succ, List.setIfInBounds_toArray, List.set_cons_zero, List.set_cons_succ]
              refine wpAnyH_take (i := 9) (v := ?_) rfl (by kernel_rfl) (by kernel_rfl) (by kernel_rfl) (fun _ _ _ h => h) (Or.inl ⟨by rfl, ?_⟩) (by assumption) ?_
              rotate_left
              first | (focus ((intro w hSw; (try dsimp only at hSw); go_simp); (try with_reducible rfl); done)) | fail
              try simp only [Act.put, List.getElem_toArray, List.getElem_cons_zero, List.getElem_cons_succ, List.setIfInBounds_toArray, List.set_cons_zero, List.set_cons_succ]
              refine wpAnyH_take (i := 10) (v := ?_) rfl (by kernel_rfl) (by kernel_rfl) (by kernel_rfl) (fun _ _ _ h => h) (Or.inl ⟨by rfl, ?_⟩) (by assumption) ?_
              rotate_left
              first | (focus ((intro w hSw; (try dsimp only at hSw); go_simp); (try with_reducible rfl); done)) | fail
              try simp only [Act.put, List.getElem_toArray, List.getElem_cons_zero, List.getElem_cons_succ, List.setIfInBounds_toArray, List.set_cons_zero, List.set_cons_succ]
              refine wpAnyH_ready (rs := [11]) (by kernel_rfl) (by simp) ?_
              refine AllReadyH.cons rfl (fun K hK => ?_) AllReadyH.nil
              go_simp
              refine (CY.out _).mono ?_; rintro e w6 ⟨rfl, b6⟩
              go_wp2_with fail
              refine hK.out _ _ ?_ (fun hHeld => ?_)
              · (try dsimp only); exact ⟨(b6.cell (by show P < w5.heap.size; omega)).trans hHeld.1, (b6.cell (by show P < w5.heap.size; omega)).trans hHeld.2.1, (b6.cell (by show b0 < w5.heap.size; omega)).trans hHeld.2.2.1, (b6.cell (by show b0 < w5.heap.size; omega)).trans hHeld.2.2.2⟩
              clear hK K
              try simp only [Act.put, List.getElem_toArray, List.getElem_cons_zero, List.getElem_cons_succ, List.setIfInBounds_toArray, List.set_cons_zero, List.set_cons_succ]
              refine wpAnyH_take (i := 12) (v := ?_) rfl (by kernel_rfl) (by kernel_rfl) (by kernel_rfl) (fun _ _ _ h => h) (Or.inl ⟨by rfl, ?_⟩) (by assumption) ?_
              rotate_left
              first | (focus ((intro w hSw; (try dsimp only at hSw); go_simp); (try with_reducible rfl); done)) | fail
              try simp only [Act.put, List.getElem_toArray, List.getElem_cons_zero, List.getElem_cons_succ, List.setIfInBounds_toArray, List.set_cons_zero, List.set_cons_succ]
              refine wpAnyH_take (i := 13) (v := ?_) rfl (by kernel_rfl) (by kernel_rfl) (by kernel_rfl) (fun _ _ _ h => h) (Or.inl ⟨by rfl, ?_⟩) (by assumption) ?_
              rotate_left
              first | (focus ((intro w hSw; (try dsimp only at hSw); go_simp); (try with_reducible rfl); done)) | fail
              try simp only [Act.put, List.getElem_toArray, List.getElem_cons_zero, List.getElem_cons_succ, List.setIfInBounds_toArray, List.set_cons_zero, List.set_cons_succ]
              refine wpAnyH_take (i := 14) (v := ?_) rfl (by kernel_rfl) (by kernel_rfl) (by kernel_rfl) (fun _ _ _ h => h) (Or.inl ⟨by rfl, ?_⟩) (by assumption) ?_
              rotate_left
              first | (focus ((intro w hSw; (try dsimp only at hSw); go_simp); (try with_reducible rfl); done)) | fail
              try simp only [Act.put, List.getElem_toArray, List.getElem_cons_zero, List.getElem_cons_succ, List.setIfInBounds_toArray, List.set_cons_zero, List.set_cons_succ]
              refine wpAnyH_done (by kernel_rfl) ?_ _
              have HB6 := Lib.hid (HB.out.1.drew.trans (below_of_le b6 (show N ≤ w5.heap.size by omega)))
              clear b6 hHeld
              go_wp2
              go_ret
              exact ⟨ret_int hE.out.symm, HB6.out⟩
            · have hnx := Lib.hid (show chkG none L = chkG (prevA L (j' + 1 + 1)) (L.drop (j' + 1 + 1)) by rw [hst3.out]; rfl)
              have hal' : decide (0 ≤ z) = false := by rw [hal]; rfl
              clear hal
              go_wp2_with fail
              refine wp_region_held_drew (S := (fun W => W.cell? ⟨P, 0, none⟩ = some (.int .i64 d) ∧ W.cell? ⟨P, 1, none⟩ = some (.int .i64 i) ∧ W.cell? ⟨b0, o0 + j' * 3, none⟩ = some (.int .i64 y1) ∧ W.cell? ⟨b0, o0 + j' * 3 + 1, none⟩ = some (.int .i64 y2))) (by kernel_rfl) ?_ (fun hHeld => ?_)
              · (try dsimp only); exact ⟨HB.out.2.1, HB.out.2.2.1, HL5.out.1, HL5.out.2⟩
              refine wpAnyH_take (i := 0) (v := ?_) rfl (by kernel_rfl) (by kernel_rfl) (by kernel_rfl) (fun _ _ _ h => h) (Or.inl ⟨by rfl, ?_⟩) (by assumption) ?_
              rotate_left
              first | (focus ((intro w hSw; (try dsimp only at hSw); go_simp); (try with_reducible rfl); done)) | fail
              try simp only [Act.put, List.getElem_toArray, List.getElem_cons_zero, List.setIfInBounds_toArray, List.set_cons_zero, List.set_cons_succ]
              refine wpAnyH_take (i := 1) (v := ?_) rfl (by kernel_rfl) (by kernel_rfl) (by kernel_rfl) (fun _ _ _ h => h) (Or.inl ⟨by rfl, ?_⟩) (by assumption) ?_
              rotate_left
              first | (focus ((intro w hSw; (try dsimp only at hSw); go_simp); (try with_reducible rfl); done)) | fail
              try simp only [Act.put, List.getElem_toArray, List.getElem_cons_zero, List.getElem_cons_succ, List.setIfInBounds_toArray, List.set_cons_zero, List.set_cons_succ]
              refine wpAnyH_take (i := 2) (v := ?_) rfl (by kernel_rfl) (by kernel_rfl) (by kernel_rfl) (fun _ _ _ h => h) (Or.inl ⟨by rfl, ?_⟩) (by assumption) ?_
              rotate_left
              first | (focus ((intro w hSw; (try dsimp only at hSw); go_simp); (try with_reducible rfl); done)) | fail
              try simp only [Act.put, List.getElem_toArray, List.getElem_cons_zero, List.getElem_cons_succ, List.setIfInBounds_toArray, List.set_cons_zero, List.set_cons_succ]
              refine wpAnyH_take (i := 3) (v := ?_) rfl (by kernel_rfl) (by kernel_rfl) (by kernel_rfl) (fun _ _ _ h => h) (Or.inl ⟨by rfl, ?_⟩) (by assumption) ?_
              rotate_left
              first | (focus ((intro w hSw; (try dsimp only at hSw); go_simp); (try with_reducible rfl); done)) | fail
              try simp only [Act.put, List.getElem_toArray, List.getElem_cons_zero, List.getElem_cons_succ, List.setIfInBounds_toArray, List.set_cons_zero, List.set_cons_succ]
              refine wpAnyH_take (i := 4) (v := ?_) rfl (by kernel_rfl) (by kernel_rfl) (by kernel_rfl) (fun _ _ _ h => h) (Or.inl ⟨by rfl, ?_⟩) (by assumption) ?_
              rotate_left
              first | (focus ((intro w hSw; (try dsimp only at hSw); go_simp); (try with_reducible rfl); done)) | fail
              try simp only [Act.put, List.getElem_toArray, List.getElem_cons_zero, List.getElem_cons_succ, List.setIfInBounds_toArray, List.set_cons_zero, List.set_cons_succ]
              refine wpAnyH_take (i := 5) (v := ?_) rfl (by kernel_rfl) (by kernel_rfl) (by kernel_rfl) (fun _ _ _ h => h) (Or.inl ⟨by rfl, ?_⟩) (by assumption) ?_
              rotate_left
              first | (focus ((intro w hSw; (try dsimp only at hSw); go_simp); (try with_reducible rfl); done)) | fail
              try simp only [Act.put, List.getElem_toArray, List.getElem_cons_zero, List.getElem_cons_succ, List.setIfInBounds_toArray, List.set_cons_zero, List.set_cons_succ]
              refine wpAnyH_take (i := 6) (v := ?_) rfl (by kernel_rfl) (by kernel_rfl) (by kernel_rfl) (fun _ _ _ h => h) (Or.inl ⟨by rfl, ?_⟩) (by assumption) ?_
              rotate_left
              first | (focus ((intro w hSw; (try dsimp only at hSw); go_simp); (try with_reducible rfl); done)) | fail
              try simp only [Act.put, List.getElem_toArray, List.getElem_cons_zero, List.getElem_cons_succ, List.setIfInBounds_toArray, List.set_cons_zero, List.set_cons_succ]
              refine wpAnyH_take (i := 7) (v := ?_) rfl (by kernel_rfl) (by kernel_rfl) (by kernel_rfl) (fun _ _ _ h => h) (Or.inl ⟨by rfl, ?_⟩) (by assumption) ?_
              rotate_left
              first | (focus ((intro w hSw; (try dsimp only at hSw); go_simp); (try with_reducible rfl); done)) | fail
              try simp only [Act.put, List.getElem_toArray, List.getElem_cons_zero, List.getElem_cons_succ, List.setIfInBounds_toArray, List.set_cons_zero, List.set_cons_succ]
              refine wpAnyH_take (i := 8) (v := ?_) rfl (by kernel_rfl) (by kernel_rfl) (by kernel_rfl) (fun _ _ _ h => h) (Or.inl ⟨by rfl, ?_⟩) (by assumption) ?_
              rotate_left
              first | (focus ((intro w hSw; (try dsimp only at hSw); go_simp); (try with_reducible rfl); done)) | fail
              try simp only [Act.put, List.getElem_toArray, List.getElem_cons_zero, List.getElem_cons_succ, List.setIfInBounds_toArray, List.set_cons_zero, List.set_cons_succ]
              refine wpAnyH_take (i := 9) (v := ?_) rfl (by kernel_rfl) (by kernel_rfl) (by kernel_rfl) (fun _ _ _ h => h) (Or.inl ⟨by rfl, ?_⟩) (by assumption) ?_
              rotate_left
              first | (focus ((intro w hSw; (try dsimp only at hSw); go_simp); (try with_reducible rfl); done)) | fail
              try simp only [Act.put, List.getElem_toArray, List.getElem_cons_zero, List.getElem_cons_succ, List.setIfInBounds_toArray, List.set_cons_zero, List.set_cons_succ]
              refine wpAnyH_take (i := 10) (v := ?_) rfl (by kernel_rfl) (by kernel_rfl) (by kernel_rfl) (fun _ _ _ h => h) (Or.inl ⟨by rfl, ?_⟩) (by assumption) ?_
              rotate_left
              first | (focus ((intro w hSw; (try dsimp only at hSw); go_simp); (try with_reducible rfl); done)) | fail
              try simp only [Act.put, List.getElem_toArray, List.getElem_cons_zero, List.getElem_cons_succ, List.setIfInBounds_toArray, List.set_cons_zero, List.set_cons_succ]
              refine wpAnyH_ready (rs := [11]) (by kernel_rfl) (by simp) ?_
              refine AllReadyH.cons rfl (fun K hK => ?_) AllReadyH.nil
              go_simp
              refine (CY.out _).mono ?_; rintro e w6 ⟨rfl, b6⟩
              go_wp2_with fail
              refine hK.out _ _ ?_ (fun hHeld => ?_)
              · (try dsimp only); exact ⟨(b6.cell (by show P < w5.heap.size; omega)).trans hHeld.1, (b6.cell (by show P < w5.heap.size; omega)).trans hHeld.2.1, (b6.cell (by show b0 < w5.heap.size; omega)).trans hHeld.2.2.1, (b6.cell (by show b0 < w5.heap.size; omega)).trans hHeld.2.2.2⟩
              clear hK K
              try simp only [Act.put, List.getElem_toArray, List.getElem_cons_zero, List.getElem_cons_succ, List.setIfInBounds_toArray, List.set_cons_zero, List.set_cons_succ]
              refine wpAnyH_take (i := 12) (v := ?_) rfl (by kernel_rfl) (by kernel_rfl) (by kernel_rfl) (fun _ _ _ h => h) (Or.inl ⟨by rfl, ?_⟩) (by assumption) ?_
              rotate_left
              first | (focus ((intro w hSw; (try dsimp only at hSw); go_simp); (try with_reducible rfl); done)) | fail
              try simp only [Act.put, List.getElem_toArray, List.getElem_cons_zero, List.getElem_cons_succ, List.setIfInBounds_toArray, List.set_cons_zero, List.set_cons_succ]
              refine wpAnyH_take (i := 13) (v := ?_) rfl (by kernel_rfl) (by kernel_rfl) (by kernel_rfl) (fun _ _ _ h => h) (Or.inl ⟨by rfl, ?_⟩) (by assumption) ?_
              rotate_left
              first | (focus ((intro w hSw; (try dsimp only at hSw); go_simp); (try with_reducible rfl); done)) | fail
              try simp only [Act.put, List.getElem_toArray, List.getElem_cons_zero, List.getElem_cons_succ, List.setIfInBounds_toArray, List.set_cons_zero, List.set_cons_succ]
              refine wpAnyH_take (i := 14) (v := ?_) rfl (by kernel_rfl) (by kernel_rfl) (by kernel_rfl) (fun _ _ _ h => h) (Or.inl ⟨by rfl, ?_⟩) (by assumption) ?_
              rotate_left
              first | (focus ((intro w hSw; (try dsimp only at hSw); go_simp); (try with_reducible rfl); done)) | fail
              try simp only [Act.put, List.getElem_toArray, List.getElem_cons_zero, List.getElem_cons_succ, List.setIfInBounds_toArray, List.set_cons_zero, List.set_cons_succ]
              refine wpAnyH_done (by kernel_rfl) ?_ _
              have HB6 := Lib.hid (HB.out.1.drew.trans (below_of_le b6 (show N ≤ w5.heap.size by omega)))
              clear b6 hHeld
              go_wp2
              go_roundw
              case rel => exact ⟨j' + 1 + 1, by omega, by go_num, hnx.out, HB6.out⟩
              case measure => simp [intOf]; omega
      · have hj' : j = n := by omega
        subst hj'
        have hE := Lib.hid (show chkG none L = 0 by
          rw [HM.out.1, List.drop_eq_nil_of_le (by have := HL.out; omega)]
          cases prevA L j <;> rfl)
        go_wp2
        go_ret
        exact ⟨ret_int hE.out.symm, HM.out.2⟩
end Go.Proofs.YtpakmeegldgjmaaGreat
/- Layer 17 (vector): Of. -/
namespace Go.Proofs.YtpakmeegldgjmaaGreat
open Go.RowKit
set_option linter.unusedVariables false
set_option maxRecDepth 100000
attribute [local go_sem ↓] Go.wp_at_zero Go.wp_at_succ

theorem Vw.sub {M : List Dt} (h : Vw M) (j : Nat) : Vw (M.take j) := ⟨List.Pairwise.sublist (List.take_sublist _ _) h.1, fun x hx => h.2 x (List.mem_of_mem_take hx)⟩
end Go.Proofs.YtpakmeegldgjmaaGreat
/- Merged: Z1, Z2, Z3, Z4. -/
/- Layer 18 (seen): sets in memory; New, Has. -/
namespace Go.Proofs.YtpakmeegldgjmaaGreat
open Go.RowKit
set_option linter.unusedVariables false
set_option maxRecDepth 100000
attribute [local go_sem ↓] Go.wp_at_zero Go.wp_at_succ

/-- The exceptions as a map's pairs. -/
def ones (B : List Dt) : List (Dt × Int) := B.map fun d => (d, 1)
theorem ones_keys (B : List Dt) : (ones B).map (·.1) = B := by
  unfold ones
  rw [List.map_map]
  exact List.map_id B
theorem ones_has (B : List Dt) (d : Dt) : mhas (ones B) d = decide (d ∈ B) := by
  rw [Bool.eq_iff_iff, mhas_iff, ones_keys, decide_eq_true_eq]
theorem ones_filter (B : List Dt) (p : Dt → Bool) : (ones B).filter (fun x => p x.1) = ones (B.filter p) := by
  unfold ones
  rw [List.filter_map]
  rfl
theorem ones_len (B : List Dt) : (ones B).length = B.length := by simp [ones]
section
variable {w w' : World} {s v b g : Nat} {M B : List Dt}
end
theorem Sw.nil : Sw [] [] := ⟨Vw.nil, List.Pairwise.nil, by simp⟩
/-- Has a set a dot? -/
def hasS (M B : List Dt) (d : Dt) : Bool := decide (d ∈ B) || vhasB M d
theorem hasS_iff (M B : List Dt) (d : Dt) : hasS M B d = true ↔ inS M B d := by
  unfold hasS inS vhasB
  simp only [Bool.or_eq_true, Bool.and_eq_true, decide_eq_true_eq]
end Go.Proofs.YtpakmeegldgjmaaGreat
/- Layer 18 (seen): fill. -/
namespace Go.Proofs.YtpakmeegldgjmaaGreat
open Go.RowKit
set_option linter.unusedVariables false
set_option maxRecDepth 100000
attribute [local go_sem ↓] Go.wp_at_zero Go.wp_at_succ

theorem Sw.ok {M B : List Dt} (h : Sw M B) {d : Dt} (hd : d ∈ B) : dtOk d := by
  have := (rightD_iff d).1 (h.right d hd)
  exact ⟨wf_of (by omega) (by omega), wf_of (by omega) (by omega), wf_of (by omega) (by omega)⟩
theorem C2.blk {N : Nat} {d i : Int} {W W' : World} (h : C2 N d i W) (hb : W'.heap[N]? = W.heap[N]?) : C2 N d i W' :=
  ⟨(World.cell?_of_block hb).trans h.1, (World.cell?_of_block hb).trans h.2⟩
theorem C3.of {P : Nat} {t : TypeId} {x y z : Int} {w : World} (h : Whole w P t #[.int .i64 x, .int .i64 y, .int .i64 z]) : C3 P x y z w :=
  ⟨by rw [h.cell]; rfl, by rw [h.cell]; rfl, by rw [h.cell]; rfl⟩
end Go.Proofs.YtpakmeegldgjmaaGreat
/- Layer 18 (seen): Add, sorted, Base, Beyond. -/
namespace Go.Proofs.YtpakmeegldgjmaaGreat
open Go.RowKit
set_option linter.unusedVariables false
set_option maxRecDepth 100000
attribute [local go_sem ↓] Go.wp_at_zero Go.wp_at_succ

theorem SetL.has {M B L : List Dt} (h : SetL M B L) (d : Dt) : hasS M B d = decide (d ∈ L) := by
  rw [Bool.eq_iff_iff, hasS_iff, decide_eq_true_eq, h.mem]
theorem SetL.len {M B L : List Dt} (h : SetL M B L) : B.length ≤ L.length := by
  have := h.beyond
  rw [← this]
  exact List.length_filter_le _ _
end Go.Proofs.YtpakmeegldgjmaaGreat
/- Layer 18 (seen): Add of nil, sorted, Base, Beyond. -/
namespace Go.Proofs.YtpakmeegldgjmaaGreat
open Go.RowKit
set_option linter.unusedVariables false
set_option maxRecDepth 100000
attribute [local go_sem ↓] Go.wp_at_zero Go.wp_at_succ

theorem dtOk_right {d : Dt} (hr : rightD d = true) : dtOk d := by
  have hb := (rightD_iff _).1 hr
  exact ⟨wf_of (by omega) (by omega), wf_of (by omega) (by omega), wf_of (by omega) (by omega)⟩
end Go.Proofs.YtpakmeegldgjmaaGreat
/- Merged: Z5, Z6, Z7. -/
/- Layer 18, the document's sets: Add. -/
namespace Go.Proofs.YtpakmeegldgjmaaGreat
open Go.RowKit
set_option linter.unusedVariables false
set_option maxRecDepth 100000
attribute [local go_sem ↓] Go.wp_at_zero Go.wp_at_succ

end Go.Proofs.YtpakmeegldgjmaaGreat
/- Layer 18, the document's sets: up, Base, Beyond. -/
namespace Go.Proofs.YtpakmeegldgjmaaGreat
open Go.RowKit
set_option linter.unusedVariables false
set_option maxRecDepth 100000
attribute [local go_sem ↓] Go.wp_at_zero Go.wp_at_succ

theorem appD (w : World) (base : Nat) (A : Option Addr) (n c : Nat) (xs : List Value) (hown : Own w base 50 3 A n c xs) (B : Nat) (A' : Option Addr) (m c' : Nat) (news : List Value) (hr : Rd w B 3 A' m news) (h1 : ∀ u ∈ news, u.oneCell' = true) (hlen : n + m ≤ 4000000000) (hbase : base ≤ w.heap.size) :
    ∃ A2 c2 w', (Builtin.append_ #[57, 57] 57 #[.slice A n c, .slice A' m c']).run Tryz.prog w = .ok (.slice A2 (n + m) c2) w' ∧ Own w' base 50 3 A2 (n + m) c2 (xs ++ news) ∧ w.grownBy w' (bl A) ∧ Near w A A2 := by
  obtain ⟨i0, hi, hz0, hz1, hz2⟩ := info_parts info_dt
  exact run_append_rdn (P := Tryz.prog) w 57 57 base 50 i0 (.agg #[.int .i64 0, .int .i64 0, .int .i64 0]) 3 24 Tryz.underlying57 hi hz0 hz1 hz2 rfl (by decide) (by decide) A n c xs hown B A' m c' news hr h1 (by omega) hbase
end Go.Proofs.YtpakmeegldgjmaaGreat
/- Layer 18: awake, is, made. -/
namespace Go.Proofs.YtpakmeegldgjmaaGreat
open Go.RowKit
set_option linter.unusedVariables false
set_option maxRecDepth 100000
attribute [local go_sem ↓] Go.wp_at_zero Go.wp_at_succ

end Go.Proofs.YtpakmeegldgjmaaGreat
/- Layer 18 (seen), Join: the plain facts, and what its loops keep. -/
namespace Go.Proofs.YtpakmeegldgjmaaGreat
open Go.RowKit
set_option linter.unusedVariables false
set_option maxRecDepth 100000
attribute [local go_sem ↓] Go.wp_at_zero Go.wp_at_succ

theorem insD_len (L : List Dt) (d : Dt) : (insD L d).length ≤ L.length + 1 := by
  induction L with
  | nil => simp [insD]
  | cons x r ih =>
    unfold insD
    split
    · simp only [List.length_cons]; omega
    · split
      · omega
      · simp only [List.length_cons]; omega
theorem foldl_insD_len (l L : List Dt) : (l.foldl insD L).length ≤ L.length + l.length := by
  induction l generalizing L with
  | nil => simp
  | cons x r ih =>
    rw [List.foldl_cons]
    have := ih (insD L x)
    have := insD_len L x
    simp only [List.length_cons]; omega
theorem dsort_len (l : List Dt) : (dsort l).length ≤ l.length := by
  have := foldl_insD_len l []
  unfold dsort
  simpa using this
/-- What a set has once another one's base is raised in it. -/
theorem inS_join {M B MO : List Dt} (hv : Vw M) (ho : Vw MO) (d : Dt) : inS (rjoin M MO) B d ↔ inS M B d ∨ (rightD d = true ∧ d.2 ≤ mget MO d.1) := by
  unfold inS
  rw [mget_join hv ho.1 (fun x hx => .inl (ho.2 x hx))]
  constructor
  · rintro (h | ⟨h1, h2⟩)
    · exact .inl (.inl h)
    · by_cases h3 : d.2 ≤ mget M d.1
      · exact .inl (.inr ⟨h1, h3⟩)
      · exact .inr ⟨h1, by omega⟩
  · rintro ((h | ⟨h1, h2⟩) | ⟨h1, h2⟩)
    · exact .inl h
    · exact .inr ⟨h1, by omega⟩
    · exact .inr ⟨h1, by omega⟩
/-- The exceptions that the base has not. -/
def cutB (M B : List Dt) : List Dt := B.filter fun d => !vhasB M d
theorem inS_cut (M B : List Dt) (hB : ∀ d ∈ B, rightD d = true) (d : Dt) : inS M (cutB M B) d ↔ inS M B d := by
  unfold inS cutB
  rw [List.mem_filter]
  constructor
  · rintro (⟨h, _⟩ | h)
    · exact .inl h
    · exact .inr h
  · rintro (h | h)
    · cases hv : vhasB M d
      · exact .inl ⟨h, by simp⟩
      · unfold vhasB at hv
        simp only [Bool.and_eq_true, decide_eq_true_eq] at hv
        exact .inr hv
    · exact .inr h
/-- What filling keeps. -/
structure FI (M1 B2 T : List Dt) (j : Nat) (M B : List Dt) : Prop where
  dis : Dis M B
  same : ∀ d, inS M B d ↔ inS M1 B2 d
  sub : ∀ d ∈ B, d ∈ B2
  good : ∀ d ∈ T.take j, Good M B d.1
theorem FI.start {M1 B2 T : List Dt} (h : Dis M1 B2) : FI M1 B2 T 0 M1 B2 := ⟨h, fun _ => Iff.rfl, fun _ h => h, by simp⟩
theorem FI.step {M1 B2 T M B M' B' : List Dt} {j : Nat} {x : Dt} (h : FI M1 B2 T j M B) (hx : T[j]? = some x) (hf : FillR M B x.1 M' B') (hg : Good M' B' x.1) : FI M1 B2 T (j + 1) M' B' := by
  refine ⟨hf.dis h.dis, fun d => (hf.same d).trans (h.same d), fun d hd => h.sub d (hf.sub d hd), fun d hd => ?_⟩
  by_cases e : d.1 = x.1
  · rw [e]; exact hg
  · rw [List.take_add_one, hx, List.mem_append] at hd
    rcases hd with hd | hd
    · exact hf.good e (h.good d hd)
    · simp at hd
      subst hd
      exact absurd rfl e
theorem FI.all {M1 B2 M B : List Dt} {j : Nat} (h : FI M1 B2 B2 j M B) (hj : B2.length ≤ j) (a : Ac) : Good M B a := by
  intro hm
  have h1 := h.sub _ hm
  exact h.good (a, mget M a + 1) (by rw [List.take_of_length_le hj]; exact h1) hm
structure FG (M1 B2 M B : List Dt) : Prop where
  dis : Dis M B
  same : ∀ d, inS M B d ↔ inS M1 B2 d
  good : ∀ a, Good M B a
theorem FG.step {M1 B2 M B M' B' : List Dt} {a : Ac} (h : FG M1 B2 M B) (hf : FillR M B a M' B') (hg : Good M' B' a) : FG M1 B2 M' B' := by
  refine ⟨hf.dis h.dis, fun d => (hf.same d).trans (h.same d), fun c => ?_⟩
  by_cases e : c = a
  · rw [e]; exact hg
  · exact hf.good e (h.good c)
/-- The dots of a set that another one's base is raised in. -/
def midL (M1 B2 L O : List Dt) : List Dt := (dsort (L ++ O)).filter fun d => hasS M1 B2 d
theorem FG.setL {M B L MO BO LO M4 B4 : List Dt} (h : SetL M B L) (ho : SetL MO BO LO) (hs : Sw M4 B4) (hf : FG (rjoin M MO) (cutB (rjoin M MO) B) M4 B4) : SetL M4 B4 (midL (rjoin M MO) (cutB (rjoin M MO) B) L LO) := by
  refine ⟨hs, hf.dis, hf.good, ⟨(srt_dsort _).filter _, fun x hx => ?_⟩, fun d => ?_⟩
  · have := (mem_dsort _ _).1 (List.mem_filter.1 hx).1
    rcases List.mem_append.1 this with h1 | h1
    · exact h.dw.2 x h1
    · exact ho.dw.2 x h1
  · unfold midL
    rw [List.mem_filter, mem_dsort, hasS_iff, hf.same]
    refine ⟨fun h => h.2, fun hd => ⟨?_, hd⟩⟩
    rw [inS_cut _ _ h.sw.right, inS_join h.sw.vw ho.sw.vw] at hd
    rw [List.mem_append]
    rcases hd with hd | hd
    · exact .inl ((h.mem d).2 hd)
    · exact .inr ((ho.mem d).2 (.inr hd))
section
variable {w W W' : World} {s v b g so vo bo go : Nat} {MO BO T M B : List Dt} {A : Option Addr}
end
end Go.Proofs.YtpakmeegldgjmaaGreat
/- Layer 18 (seen): Missing, by program and by the document. -/
namespace Go.Proofs.YtpakmeegldgjmaaGreat
open Go.RowKit
set_option linter.unusedVariables false
set_option maxRecDepth 100000
attribute [local go_sem ↓] Go.wp_at_zero Go.wp_at_succ

/-- One dot appended; the result lies in the same block, or in a new one. -/
theorem app1n (w : World) (base : Nat) (A : Option Addr) (n c : Nat) (L : List Dt) (hl : L.length = n) (hown : Own w base 50 3 A n c (dts L)) (x : Dt) (hlen : n ≤ 3000000000) (hbase : base ≤ w.heap.size) :
    ∃ A2 c2 w', (Builtin.append_ #[57, 57] 57 #[.slice A n c, .slice (some ⟨w.heap.size, 0, none⟩) 1 1]).run Tryz.prog (w.alloc (.cells #[.int .i64 x.1.1, .int .i64 x.1.2, .int .i64 x.2] 50)) = .ok (.slice A2 (n + 1) c2) w' ∧ Own w' base 50 3 A2 (n + 1) c2 (dts (L ++ [x])) ∧
      Ch (fun k => some k = bl A) w w' ∧ Below base w w' ∧ ∀ k, bl A2 = some k → bl A = some k ∨ w.heap.size ≤ k := by
  have hr : Rd (w.alloc (.cells #[.int .i64 x.1.1, .int .i64 x.1.2, .int .i64 x.2] 50)) (w.heap.size + 1) 3 (some ⟨w.heap.size, 0, none⟩) 1 (dtC x) := rd_fresh3 w x _
  obtain ⟨A2, c2, w', q, o, g, nr⟩ := appD (w.alloc (.cells #[.int .i64 x.1.1, .int .i64 x.1.2, .int .i64 x.2] 50)) base A n c (dts L) (hown.alloc _) (w.heap.size + 1) _ 1 1 (dtC x) hr (dtC_one x) (by omega) (by simp; omega)
  refine ⟨A2, c2, w', q, ?_, ?_, ?_, fun k hk => ?_⟩
  · have e : dts (L ++ [x]) = dts L ++ dtC x := by simp [dts]
    rw [e]; exact o
  · exact (Ch.alloc_ _ w _).trans (grown_ch g) (fun k _ h => h)
  · exact ((Below.refl base w).alloc hbase _).grown g (by simp; omega) hown.bl_lo
  · rcases nr with h | h
    · exact .inl (by rw [← h]; exact hk)
    · rw [h] at hk
      simp at hk
      exact .inr (by omega)
section
variable {w W W' : World} {N : Nat} {p q : Option Addr} {M B MO BO : List Dt} {A : Option Addr} {T : List Dt} {A3 : Option Addr} {c3 : Nat} {S : List Dt}
end
end Go.Proofs.YtpakmeegldgjmaaGreat
