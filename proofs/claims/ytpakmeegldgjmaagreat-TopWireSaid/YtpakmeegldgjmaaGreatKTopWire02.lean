/- TopWire: part 2 of what the proof rests on: contracts of functions, and plain laws. -/
import Derived.WalkKit
import Derived.ProofKit
import Derived.OpenShut
import Derived.Handy
import Derived.Outline
import Derived.Lib.Hide
import Derived.Deep.Draws
import Derived.Laws.OwnMore
import Derived.Laws.AppendOwn
import Derived.Laws.AppendOwnNone
import Derived.Laws.BitsAllLaws
import Derived.Laws.Bits64b
import Derived.Lib.AppendZeros
import Derived.Lib.AppendZerosOnto
import Derived.Laws.CopyRow
import Derived.Lib.AppendStr
import Derived.Test.YtpakmeegldgjmaaGreatRows
import Derived.Lib.Zigzag
import Derived.Deep.QuietTactic
import Derived.BigQuiet
import Derived.Deep.LoopGhost
import Derived.BigRegion
import Derived.RegionTactic
import Derived.Deep.WholeRow
import Derived.Deep.Slices
import Derived.Lib.Varint
import Derived.WalkSpells
import Derived.Laws.BytesString
import Derived.Laws.Concat
import Derived.IntWalk
import Derived.Test.YtpakmeegldgjmaaGreatProg
import Derived.Deep.RegionHeld3
import Derived.StillTailTactics
import Derived.Laws.StructEq
import Derived.Lib.SmallJoins
import Derived.Deep.Strs
import Derived.Laws.IdiomStrings
import Derived.Lib.SlBytesConst
import Derived.Deep.RegionWith
import Derived.Maps.Own
import Derived.Maps.OwnSet
import Derived.Maps.Range
import Derived.DeepKeys4
import Derived.ChangeKeysEq
import Derived.DeepKeys2
import Derived.RangeFuncNested
import Derived.RangeFuncBound
import Derived.RangeFuncCalls
import Derived.RangeFuncLeaves
import Derived.Sort.MapsRangeIn
import Derived.OwnWalkIn
import Derived.TacticsInMore
import Derived.RegionIn
import Derived.LoopNIn
import Derived.LoopIn
import Derived.Maps.AppendAt
import Derived.Sort.Grow
import Derived.Shelf.GgSortFunc.InsertionK
import Derived.Shelf.SlSortCmp.NoneTotal
import Derived.WideKeyEntry
import Derived.Deep.CutBlock
import Derived.Deep.CutRange
import Derived.Deep.RegionLaw
import Derived.Deep.DeepCutAuto
import Derived.Deep.DrawnRows
import Derived.WalkLawsBesides
import Derived.Deep.MidRow
import Derived.Laws.Strings2
import Derived.Test.YtpakmeegldgjmaaGreatKTopWire01
/- Merged: M1, QM, M2. -/
/- Maps keyed by structs of whole numbers, with whole numbers as elements: a map block read as a list of pairs (in whatever order), and what look-ups, stores and deletes do to it. -/
namespace Go.Proofs.YtpakmeegldgjmaaGreat
open Go.RowKit
open Go.ChangeMaps (notKey putKey delKey)
open Go.WideShapes (sorted_perm)
set_option linter.unusedVariables false
set_option maxRecDepth 100000

/-! Lists of pairs. -/
section
variable {α : Type} [DecidableEq α]
/-- The number at a key; 0 where there is none. -/
def mget : List (α × Int) → α → Int
  | [], _ => 0
  | p :: r, a => if p.1 = a then p.2 else mget r a
def mhas (W : List (α × Int)) (a : α) : Bool := W.any fun p => decide (p.1 = a)
theorem mhas_iff (W : List (α × Int)) (a : α) : mhas W a = true ↔ a ∈ W.map (·.1) := by
  unfold mhas
  rw [List.any_eq_true]
  simp only [List.mem_map, decide_eq_true_eq]
theorem mget_none {W : List (α × Int)} {a : α} (h : a ∉ W.map (·.1)) : mget W a = 0 := by
  induction W with
  | nil => rfl
  | cons p r ih =>
    simp only [List.map_cons, List.mem_cons, not_or] at h
    unfold mget
    rw [if_neg (fun e => h.1 e.symm)]
    exact ih h.2
theorem mget_mem {W : List (α × Int)} (hn : (W.map (·.1)).Nodup) {p : α × Int} (h : p ∈ W) : mget W p.1 = p.2 := by
  induction W with
  | nil => cases h
  | cons q r ih =>
    simp only [List.map_cons, List.nodup_cons] at hn
    unfold mget
    rcases List.mem_cons.1 h with rfl | h'
    · rw [if_pos rfl]
    · rw [if_neg (fun e => hn.1 (by rw [e]; exact List.mem_map.2 ⟨p, h', rfl⟩))]
      exact ih hn.2 h'
end

/-- What is asked of a key's type: how keys are written, which may be. -/
structure KeyT {α : Type} (P : Program) (k : TypeId) (kV : α → Value) (ok : α → Prop) : Prop where
  law : Maps.Keyed P k
  of : ∀ a, ok a → ∃ l, keyOf P k (kV a) = some l
  inv : ∀ v l, keyOf P k v = some l → ∃ a, ok a ∧ v = kV a
  inj : ∀ a b, kV a = kV b → a = b

section
variable {α : Type} {P : Program} {k e : TypeId} {kV : α → Value} {ok : α → Prop} {w w' : World} {b : Nat} {W : List (α × Int)}
/-- What a key reads as. -/
def klit (P : Program) (k : TypeId) (kV : α → Value) (a : α) : Lit := (keyOf P k (kV a)).getD (.bool false)
theorem KeyT.klit (K : KeyT P k kV ok) {a : α} (h : ok a) : keyOf P k (kV a) = some (klit P k kV a) := by
  obtain ⟨l, hl⟩ := K.of a h
  simp [YtpakmeegldgjmaaGreat.klit, hl]
theorem KeyT.klit_inj (K : KeyT P k kV ok) {a c : α} (ha : ok a) (hc : ok c) (h : YtpakmeegldgjmaaGreat.klit P k kV a = YtpakmeegldgjmaaGreat.klit P k kV c) : a = c :=
  K.inj _ _ (K.law.inj (K.klit ha) (h ▸ K.klit hc))
/-- A pair as the reader has it. -/
def pE (P : Program) (k : TypeId) (kV : α → Value) (p : α × Int) : Lit × DataW Unit := (YtpakmeegldgjmaaGreat.klit P k kV p.1, .lit (.int .i64 p.2))
/-- Block b is a map whose entries are the pairs of W. -/
def MapIs (P : Program) (k e : TypeId) (kV : α → Value) (ok : α → Prop) (w : World) (b : Nat) (W : List (α × Int)) : Prop :=
  w.ownsMap P k (plainElem (H := Unit) P e) b W.length (.map ((W.map (pE P k kV)).foldr DataW.insert [])) ∧ (W.map (·.1)).Nodup ∧ (∀ p ∈ W, ok p.1) ∧ ∀ p ∈ W, (Lit.int .i64 p.2).wf = true
theorem MapIs.kept {row : Option Nat} (h : MapIs P k e kV ok w b W) (hg : w.grownBy w' row) (hne : some b ≠ row) : MapIs P k e kV ok w' b W := ⟨h.1.kept hg hne, h.2⟩
theorem MapIs.lt (h : MapIs P k e kV ok w b W) : b < w.heap.size := h.1.lt
theorem MapIs.alloc (h : MapIs P k e kV ok w b W) (o : Obj) : MapIs P k e kV ok (w.alloc o) b W := ⟨h.1.alloc o, h.2⟩
theorem MapIs.drew (h : MapIs P k e kV ok w b W) : MapIs P k e kV ok w.drew b W := h
theorem MapIs.block (h : MapIs P k e kV ok w b W) (hb : w'.heap[b]? = w.heap[b]?) : MapIs P k e kV ok w' b W := by
  refine ⟨?_, h.2⟩
  obtain ⟨es, clock, h1, h2⟩ := h.1
  exact ⟨es, clock, hb.trans h1, h2⟩
theorem MapIs.ch {S : Nat → Prop} (h : MapIs P k e kV ok w b W) (hc : Ch S w w') (hS : ¬ S b) : MapIs P k e kV ok w' b W := h.block (hc.block b h.lt hS)
theorem MapIs.below {B : Nat} (h : MapIs P k e kV ok w b W) (hb : Below B w w') (hB : b < B) : MapIs P k e kV ok w' b W := h.block (hb.block b hB)
theorem MapIs.rising (K : KeyT P k kV ok) (h : MapIs P k e kV ok w b W) : DataW.rising ((W.map (pE P k kV)).foldr DataW.insert []) = true := by
  obtain ⟨es, clock, hb, F, hs, hD⟩ := h.1
  have := Maps.fit_rising K.law F
  injection hD with hD
  rw [hD]
  exact this
theorem MapIs.apart (K : KeyT P k kV ok) (h : MapIs P k e kV ok w b W) : (W.map (pE P k kV)).Pairwise (fun p q => p.1 ≠ q.1) := by
  rw [List.pairwise_map]
  have h2 := h.2.1
  rw [List.nodup_iff_pairwise_ne, List.pairwise_map] at h2
  refine h2.imp_of_mem ?_
  intro p q hp hq hne he
  exact hne (K.klit_inj (h.2.2.1 p hp) (h.2.2.1 q hq) he)
theorem MapIs.keys (K : KeyT P k kV ok) (h : MapIs P k e kV ok w b W) : Maps.Keys (Maps.KeysOf P k) (W.map (pE P k kV)) := by
  intro x hx
  obtain ⟨p, hp, rfl⟩ := List.mem_map.1 hx
  exact ⟨kV p.1, K.klit (h.2.2.1 p hp)⟩
/-- The datum at a key. -/
theorem MapIs.at_ [DecidableEq α] (K : KeyT P k kV ok) (h : MapIs P k e kV ok w b W) {a : α} (ha : ok a) :
    (DataW.map ((W.map (pE P k kV)).foldr DataW.insert [])).atKey (YtpakmeegldgjmaaGreat.klit P k kV a) (.lit (.int .i64 0)) = .lit (.int .i64 (mget W a)) := by
  have hat := WideShapes.atKey_sorted (W.map (pE P k kV)) (h.rising K) (YtpakmeegldgjmaaGreat.klit P k kV a) (K.law.key (K.klit ha))
  by_cases hm : a ∈ W.map (·.1)
  · obtain ⟨p, hp, rfl⟩ := List.mem_map.1 hm
    rw [hat.2 (pE P k kV p) (List.mem_map.2 ⟨p, hp, rfl⟩) rfl, mget_mem h.2.1 hp]
    rfl
  · rw [hat.1 (fun x hx hxe => ?_), mget_none hm]
    obtain ⟨p, hp, rfl⟩ := List.mem_map.1 hx
    exact hm (List.mem_map.2 ⟨p, hp, K.klit_inj (h.2.2.1 p hp) ha hxe⟩)
theorem MapIs.has_ [DecidableEq α] (K : KeyT P k kV ok) (h : MapIs P k e kV ok w b W) {a : α} (ha : ok a) :
    Maps.has (DataW.map ((W.map (pE P k kV)).foldr DataW.insert [])) (YtpakmeegldgjmaaGreat.klit P k kV a) = mhas W a := by
  rw [Bool.eq_iff_iff, mhas_iff, Maps.has_eq, List.any_eq_true]
  constructor
  · rintro ⟨x, hx, hs⟩
    obtain ⟨p, hp, rfl⟩ := List.mem_map.1 (mem_sorted.1 hx)
    have := K.klit_inj (h.2.2.1 p hp) ha (WideAt.sameKey_eq hs)
    exact List.mem_map.2 ⟨p, hp, this⟩
  · intro hm
    obtain ⟨p, hp, rfl⟩ := List.mem_map.1 hm
    exact ⟨pE P k kV p, mem_sorted.2 (List.mem_map.2 ⟨p, hp, rfl⟩), WideAt.sameKey_self (K.law.key (K.klit ha))⟩
/-- 'm[k]'. -/
theorem MapIs.lookup [DecidableEq α] (K : KeyT P k kV ok) (h : MapIs P k e kV ok w b W) {t : TypeId} (ht : P.underlying t = some (.map k e)) (he : P.underlying e = some (.int .i64)) (hz : (zeroValue e).run P w = .ok (.int .i64 0) w) {a : α} (ha : ok a) :
    (Instr.lookup t (.map (some b)) (kV a) false).run P w = .ok (.int .i64 (mget W a)) w := by
  obtain ⟨c, hrun, hat, _⟩ := h.1.lookup_int K.law ht he hz (K.klit ha)
  rw [h.at_ K ha] at hat
  injection hat with hat
  injection hat with _ hat
  rw [hrun, hat]
/-! A range over such a map: which keys have come. -/
/-- No key twice; a key has come just where the map has it and it is no longer to come. -/
def Come (P : Program) (k : TypeId) (kV : α → Value) (ok : α → Prop) (W : List (α × Int)) (left : Lit → Bool) (ss : List α) : Prop :=
  ss.Nodup ∧ (∀ x ∈ ss, ok x) ∧ ∀ x, ok x → (x ∈ ss ↔ (x ∈ W.map (·.1) ∧ left (YtpakmeegldgjmaaGreat.klit P k kV x) = false))
theorem Come.start [DecidableEq α] (K : KeyT P k kV ok) (h : MapIs P k e kV ok w b W) : Come P k kV ok W (Maps.has (DataW.map ((W.map (pE P k kV)).foldr DataW.insert []))) [] := by
  refine ⟨List.nodup_nil, by simp, fun x hx => ?_⟩
  rw [h.has_ K hx, ← mhas_iff]
  cases mhas W x <;> simp
theorem Come.step [DecidableEq α] (K : KeyT P k kV ok) (h : MapIs P k e kV ok w b W) {left : Lit → Bool} {ss : List α} (hC : Come P k kV ok W left ss) {x : α} (hx : ok x) {y : DataW Unit} (hlk : left (YtpakmeegldgjmaaGreat.klit P k kV x) = true)
    (hat : ∀ zd, (DataW.map ((W.map (pE P k kV)).foldr DataW.insert [])).atKey (YtpakmeegldgjmaaGreat.klit P k kV x) zd = y) : Come P k kV ok W (fun z => left z && !z.sameKey (YtpakmeegldgjmaaGreat.klit P k kV x)) (ss ++ [x]) := by
  have hhas := Maps.has_true_of_atKey hat
  rw [h.has_ K hx] at hhas
  have hnew : x ∉ ss := fun hm => by have := ((hC.2.2 x hx).1 hm).2; rw [hlk] at this; cases this
  refine ⟨List.nodup_append.2 ⟨hC.1, by simp, fun a ha b hb => by simp at hb; subst hb; exact fun e => hnew (e ▸ ha)⟩, ?_, fun y hy => ?_⟩
  · intro y hy
    rcases List.mem_append.1 hy with hy | hy
    · exact hC.2.1 y hy
    · simp at hy; subst hy; exact hx
  · by_cases hyx : y = x
    · subst hyx
      have := WideAt.sameKey_self (K.law.key (K.klit hx))
      simp [(mhas_iff W y).1 hhas, this]
    · have hs : (YtpakmeegldgjmaaGreat.klit P k kV y).sameKey (YtpakmeegldgjmaaGreat.klit P k kV x) = false := by
        cases hs : (YtpakmeegldgjmaaGreat.klit P k kV y).sameKey (YtpakmeegldgjmaaGreat.klit P k kV x)
        · rfl
        · exact absurd (K.klit_inj hy hx (WideAt.sameKey_eq hs)) hyx
      simp only [List.mem_append, List.mem_singleton, hyx, or_false, hs, Bool.not_false, Bool.and_true]
      exact hC.2.2 y hy
end
end Go.Proofs.YtpakmeegldgjmaaGreat
/- Actors and dots as pairs of numbers, their orders, lists in order (plain; no program in sight). -/
namespace Go.Proofs.YtpakmeegldgjmaaGreat
set_option linter.unusedVariables false

/-- An actor: its device, its incarnation. -/
abbrev Ac := Int × Int
/-- A dot, or a mark: an actor, a number. -/
abbrev Dt := Ac × Int
def aLt (a b : Ac) : Bool := decide (a.1 < b.1 ∨ (a.1 = b.1 ∧ a.2 < b.2))
def dLt (x y : Dt) : Bool := decide (x.1.1 < y.1.1 ∨ (x.1.1 = y.1.1 ∧ (x.1.2 < y.1.2 ∨ (x.1.2 = y.1.2 ∧ x.2 < y.2))))
theorem ac_ext {a b : Ac} (h1 : a.1 = b.1) (h2 : a.2 = b.2) : a = b := Prod.ext h1 h2
theorem dt_ext {a b : Dt} (h1 : a.1.1 = b.1.1) (h2 : a.1.2 = b.1.2) (h3 : a.2 = b.2) : a = b := Prod.ext (Prod.ext h1 h2) h3
theorem aLt_irrefl (a : Ac) : aLt a a = false := by simp [aLt]
theorem aLt_trans {a b c : Ac} (h : aLt a b = true) (k : aLt b c = true) : aLt a c = true := by
  simp only [aLt, decide_eq_true_eq] at *; omega
theorem aLt_tri {a b : Ac} (h : aLt a b = false) (k : aLt b a = false) : a = b := by
  simp only [aLt, decide_eq_false_iff_not] at *
  exact ac_ext (by omega) (by omega)
theorem dLt_irrefl (a : Dt) : dLt a a = false := by simp [dLt]
theorem dLt_trans {a b c : Dt} (h : dLt a b = true) (k : dLt b c = true) : dLt a c = true := by
  simp only [dLt, decide_eq_true_eq] at *; omega
theorem dLt_tri {a b : Dt} (h : dLt a b = false) (k : dLt b a = false) : a = b := by
  simp only [dLt, decide_eq_false_iff_not] at *
  exact dt_ext (by omega) (by omega) (by omega)
theorem dLt_of_aLt {x y : Dt} (h : aLt x.1 y.1 = true) : dLt x y = true := by
  simp only [dLt, aLt, decide_eq_true_eq] at *; omega

/-! Lists in order: one by their members. -/
section
variable {α : Type} {r : α → α → Bool}
theorem pw_ext (hi : ∀ a, r a a = false) (ht : ∀ a b c, r a b = true → r b c = true → r a c = true) {l m : List α} (hl : l.Pairwise fun x y => r x y = true) (hm : m.Pairwise fun x y => r x y = true) (h : ∀ x, x ∈ l ↔ x ∈ m) : l = m := by
  induction l generalizing m with
  | nil =>
    cases m with
    | nil => rfl
    | cons y t => exact absurd ((h y).2 (List.mem_cons_self ..)) (by simp)
  | cons x s ih =>
    cases m with
    | nil => exact absurd ((h x).1 (List.mem_cons_self ..)) (by simp)
    | cons y t =>
      rw [List.pairwise_cons] at hl hm
      have hxy : x = y := by
        rcases List.mem_cons.1 ((h x).1 (List.mem_cons_self ..)) with e | hx
        · exact e
        · rcases List.mem_cons.1 ((h y).2 (List.mem_cons_self ..)) with e | hy
          · exact e.symm
          · have := ht _ _ _ (hl.1 y hy) (hm.1 x hx)
            rw [hi] at this; cases this
      subst hxy
      congr 1
      refine ih hl.2 hm.2 fun z => ?_
      constructor
      · intro hz
        rcases List.mem_cons.1 ((h z).1 (List.mem_cons_of_mem _ hz)) with e | hz'
        · subst e
          have := hl.1 z hz; rw [hi] at this; cases this
        · exact hz'
      · intro hz
        rcases List.mem_cons.1 ((h z).2 (List.mem_cons_of_mem _ hz)) with e | hz'
        · subst e
          have := hm.1 z hz; rw [hi] at this; cases this
        · exact hz'
theorem pw_nodup (hi : ∀ a, r a a = false) {l : List α} (hl : l.Pairwise fun x y => r x y = true) : l.Nodup :=
  hl.imp fun {a b} h e => by subst e; rw [hi] at h; cases h
end
/-- Marks in order. -/
def Srt (M : List Dt) : Prop := M.Pairwise fun x y => aLt x.1 y.1 = true
/-- Dots in order. -/
def DSrt (L : List Dt) : Prop := L.Pairwise fun x y => dLt x y = true
theorem Srt.dsrt {M : List Dt} (h : Srt M) : DSrt M := h.imp dLt_of_aLt
theorem Srt.keys {M : List Dt} (h : Srt M) : (M.map (·.1)).Pairwise fun x y => aLt x y = true := List.pairwise_map.2 h
theorem Srt.nodup {M : List Dt} (h : Srt M) : (M.map (·.1)).Nodup := pw_nodup aLt_irrefl h.keys
theorem srt_ext {M N : List Dt} (h : Srt M) (k : Srt N) (hm : ∀ x, x ∈ M ↔ x ∈ N) : M = N :=
  pw_ext dLt_irrefl (fun _ _ _ => dLt_trans) h.dsrt k.dsrt hm
theorem dsrt_ext {M N : List Dt} (h : DSrt M) (k : DSrt N) (hm : ∀ x, x ∈ M ↔ x ∈ N) : M = N :=
  pw_ext dLt_irrefl (fun _ _ _ => dLt_trans) h k hm
theorem srt_iff_mget {M : List Dt} (h : Srt M) (x : Dt) : x ∈ M ↔ x.1 ∈ M.map (·.1) ∧ mget M x.1 = x.2 := by
  constructor
  · intro hx
    exact ⟨List.mem_map.2 ⟨x, hx, rfl⟩, mget_mem h.nodup hx⟩
  · rintro ⟨h1, h2⟩
    obtain ⟨y, hy, e⟩ := List.mem_map.1 h1
    rw [← e, mget_mem h.nodup hy] at h2
    have : x = y := Prod.ext e.symm h2.symm
    rw [this]; exact hy

/-- A mark put in its place. -/
def rset : List Dt → Ac → Int → List Dt
  | [], a, n => [(a, n)]
  | x :: r, a, n => if aLt x.1 a then x :: rset r a n else if x.1 = a then (a, n) :: r else (a, n) :: x :: r
theorem mem_rset {M : List Dt} (h : Srt M) (a : Ac) (n : Int) (x : Dt) : x ∈ rset M a n ↔ x = (a, n) ∨ (x ∈ M ∧ x.1 ≠ a) := by
  induction M with
  | nil => simp [rset]
  | cons y r ih =>
    have hs := List.pairwise_cons.1 h
    have ih := ih hs.2
    unfold rset
    by_cases h1 : aLt y.1 a = true
    · rw [if_pos h1, List.mem_cons, ih, List.mem_cons]
      have hne : y.1 ≠ a := fun e => by rw [e, aLt_irrefl] at h1; cases h1
      constructor
      · rintro (rfl | h | h)
        · exact .inr ⟨.inl rfl, hne⟩
        · exact .inl h
        · exact .inr ⟨.inr h.1, h.2⟩
      · rintro (h | ⟨h | h, k⟩)
        · exact .inr (.inl h)
        · exact .inl h
        · exact .inr (.inr ⟨h, k⟩)
    · rw [if_neg h1]
      have hall : ∀ z ∈ r, z.1 ≠ a := fun z hz e => by
        have := hs.1 z hz
        rw [e] at this; exact h1 this
      by_cases h2 : y.1 = a
      · rw [if_pos h2, List.mem_cons, List.mem_cons]
        constructor
        · rintro (h | h)
          · exact .inl h
          · exact .inr ⟨.inr h, hall x h⟩
        · rintro (h | ⟨h | h, k⟩)
          · exact .inl h
          · subst h; exact absurd h2 k
          · exact .inr h
      · rw [if_neg h2, List.mem_cons, List.mem_cons]
        constructor
        · rintro (h | h | h)
          · exact .inl h
          · subst h; exact .inr ⟨.inl rfl, h2⟩
          · exact .inr ⟨.inr h, hall x h⟩
        · rintro (h | ⟨h | h, k⟩)
          · exact .inl h
          · exact .inr (.inl h)
          · exact .inr (.inr h)
theorem srt_rset {M : List Dt} (h : Srt M) (a : Ac) (n : Int) : Srt (rset M a n) := by
  induction M with
  | nil => simp [rset, Srt]
  | cons y r ih =>
    have hs := List.pairwise_cons.1 h
    unfold rset
    by_cases h1 : aLt y.1 a = true
    · rw [if_pos h1]
      refine List.pairwise_cons.2 ⟨fun z hz => ?_, ih hs.2⟩
      rcases (mem_rset hs.2 a n z).1 hz with rfl | ⟨hz, _⟩
      · exact h1
      · exact hs.1 z hz
    · rw [if_neg h1]
      by_cases h2 : y.1 = a
      · rw [if_pos h2]
        subst h2
        exact List.pairwise_cons.2 ⟨hs.1, hs.2⟩
      · rw [if_neg h2]
        have h3 : aLt a y.1 = true := by
          cases h3 : aLt a y.1 with
          | true => rfl
          | false => exact absurd (aLt_tri (by simpa using h1) h3) h2
        refine List.pairwise_cons.2 ⟨fun z hz => ?_, h⟩
        rcases List.mem_cons.1 hz with rfl | hz
        · exact h3
        · exact aLt_trans h3 (hs.1 z hz)
theorem mget_rset {M : List Dt} (h : Srt M) (a : Ac) (n : Int) (c : Ac) : mget (rset M a n) c = if c = a then n else mget M c := by
  have hs := srt_rset h a n
  split
  · rename_i e
    subst e
    exact mget_mem hs.nodup (p := (c, n)) ((mem_rset h _ _ _).2 (.inl rfl))
  · rename_i hne
    by_cases hc : c ∈ M.map (·.1)
    · obtain ⟨y, hy, rfl⟩ := List.mem_map.1 hc
      rw [mget_mem h.nodup hy]
      exact mget_mem hs.nodup ((mem_rset h _ _ _).2 (.inr ⟨hy, hne⟩))
    · rw [mget_none hc, mget_none]
      intro hm
      obtain ⟨y, hy, rfl⟩ := List.mem_map.1 hm
      rcases (mem_rset h _ _ _).1 hy with rfl | ⟨hy, _⟩
      · exact hne rfl
      · exact hc (List.mem_map.2 ⟨y, hy, rfl⟩)
/-- A mark put in its place, as the document does it. -/
def setL : List Dt → Ac → Int → Bool → List Dt
  | [], a, n, i => if i then [] else [(a, n)]
  | x :: r, a, n, i => (if !i && !aLt x.1 a then [(a, n)] else []) ++ (if x.1 ≠ a then [x] else []) ++ setL r a n (i || !aLt x.1 a)
theorem setL_true (M : List Dt) (a : Ac) (n : Int) : setL M a n true = M.filter fun p => decide (p.1 ≠ a) := by
  induction M with
  | nil => rfl
  | cons x r ih =>
    simp only [setL, Bool.not_true, Bool.false_and, Bool.false_eq_true, if_false, List.nil_append, Bool.true_or, ih, List.filter_cons, decide_eq_true_eq]
    split <;> rfl
theorem setL_eq {M : List Dt} (h : Srt M) (a : Ac) (n : Int) : setL M a n false = rset M a n := by
  induction M with
  | nil => rfl
  | cons x r ih =>
    have hs := List.pairwise_cons.1 h
    unfold setL rset
    by_cases h1 : aLt x.1 a = true
    · have hne : x.1 ≠ a := fun e => by rw [e, aLt_irrefl] at h1; cases h1
      simp [h1, hne, ih hs.2]
    · rw [if_neg h1]
      have h1' : aLt x.1 a = false := by simpa using h1
      have hf : r.filter (fun p => decide (p.1 ≠ a)) = r := List.filter_eq_self.2 fun z hz => by
        rw [decide_eq_true_eq]
        intro e
        have := hs.1 z hz
        rw [e] at this; exact h1 this
      simp only [h1', Bool.not_false, Bool.and_self, if_true, Bool.or_true, setL_true, hf]
      by_cases h2 : x.1 = a
      · simp [h2]
      · simp [h2]
end Go.Proofs.YtpakmeegldgjmaaGreat
/- Keys that are actors and dots: what they read as. -/
namespace Go.Proofs.YtpakmeegldgjmaaGreat
open Go.RowKit
set_option linter.unusedVariables false
set_option maxRecDepth 100000

theorem keyLits_i64 {P : Program} {d : Nat} {t : TypeId} (hu : P.underlying t = some (.int .i64)) {cs : List Value} {l : List Lit} (h : P.keyLits d t cs = some l) : ∃ n, cs = [.int .i64 n] ∧ (Lit.int .i64 n).wf = true := by
  cases d with
  | zero => simp [Program.keyLits] at h
  | succ d =>
    obtain ⟨n, rfl, rfl⟩ := keyLits_int' hu h
    unfold Program.keyLits at h
    rw [hu] at h
    simp only at h
    split at h
    · rename_i hw
      exact ⟨n, rfl, hw.2⟩
    · cases h
theorem keyLits_i64_mk {P : Program} {d : Nat} {t : TypeId} (hu : P.underlying t = some (.int .i64)) {n : Int} (hw : (Lit.int .i64 n).wf = true) : P.keyLits (d + 1) t [.int .i64 n] = some [.int .i64 n] := by
  unfold Program.keyLits
  rw [hu]
  simp [hw]
/-- An actor's cells, its value; may it be a key? -/
def acC (a : Ac) : List Value := [.int .i64 a.1, .int .i64 a.2]
def acV (a : Ac) : Value := .agg #[.int .i64 a.1, .int .i64 a.2]
def acOk (a : Ac) : Prop := (Lit.int .i64 a.1).wf = true ∧ (Lit.int .i64 a.2).wf = true
/-- A dot's. -/
def dtC (x : Dt) : List Value := [.int .i64 x.1.1, .int .i64 x.1.2, .int .i64 x.2]
def dtOk (x : Dt) : Prop := (Lit.int .i64 x.1.1).wf = true ∧ (Lit.int .i64 x.1.2).wf = true ∧ (Lit.int .i64 x.2).wf = true
theorem actor_lits (m : Nat) (xs : List Value) (l : List Lit) (h : Tryz.prog.keyLits (m + 1) 48 xs = some l) : ∃ a, acOk a ∧ xs = [.int .i64 a.1, .int .i64 a.2] := by
  have hc : Tryz.prog.cellsOf 48 = 2 := by kernel_rfl
  have hi : Tryz.prog.cellsOf 3 = 1 := by kernel_rfl
  unfold Program.keyLits at h
  rw [Tryz.underlying48] at h
  simp only [hc] at h
  split at h
  · rename_i hl
    obtain ⟨hl, _⟩ := hl
    obtain ⟨x, y, rfl⟩ : ∃ x y, xs = [x, y] := by
      match xs, hl with
      | [x, y], _ => exact ⟨x, y, rfl⟩
    simp [hi, List.mapM_cons, Option.bind_eq_some_iff] at h
    obtain ⟨a, ha, b, ⟨a', hb, _⟩, _⟩ := h
    obtain ⟨n1, e1, w1⟩ := keyLits_i64 Tryz.underlying3 ha
    obtain ⟨n2, e2, w2⟩ := keyLits_i64 Tryz.underlying3 hb
    simp at e1 e2
    subst e1 e2
    exact ⟨(n1, n2), ⟨w1, w2⟩, rfl⟩
  · cases h
theorem actor_lits_mk (m : Nat) (a : Ac) (h : acOk a) : Tryz.prog.keyLits (m + 2) 48 [.int .i64 a.1, .int .i64 a.2] = some [.int .i64 a.1, .int .i64 a.2] := by
  have hc : Tryz.prog.cellsOf 48 = 2 := by kernel_rfl
  have hi : Tryz.prog.cellsOf 3 = 1 := by kernel_rfl
  have k1 := keyLits_i64_mk (d := m) Tryz.underlying3 h.1
  have k2 := keyLits_i64_mk (d := m) Tryz.underlying3 h.2
  unfold Program.keyLits
  rw [Tryz.underlying48]
  simp [hc, hi, List.mapM_cons, k1, k2]
theorem actor_wide : (match Tryz.prog.underlying 48 with | some (.array _ _) | some (.struct _) => true | _ => false) = true := by rw [Tryz.underlying48]
theorem size_big : ∃ m, Tryz.prog.types.size = m + 3 := ⟨Tryz.prog.types.size - 3, by
  have h : 3 ≤ Tryz.prog.types.size := of_decide_eq_true (by kernel_rfl)
  omega⟩
theorem laidOutK : laidOutB Tryz.prog = true := by kernel_rfl
theorem actor_key : KeyT Tryz.prog 48 acV acOk where
  law := Maps.Keyed.of_law (deep_law_laid laidOutK (m := 3) (by omega) (of_decide_eq_true (by kernel_rfl)) (by kernel_rfl) actor_wide)
  of a h := by
    obtain ⟨m, hm⟩ := size_big
    have hk : Tryz.prog.keyType 48 = true := by kernel_rfl
    have hc : Tryz.prog.cellsOf 48 = 2 := by kernel_rfl
    have hf : (acV a).formed Tryz.prog 48 = true := by
      unfold acV Value.formed
      simp only [Tryz.underlying48, hc]
      rfl
    have hl := actor_lits_mk (m + 2) a h
    rw [show m + 2 + 2 = m + 3 + 1 by omega, ← hm] at hl
    have hcs : (acV a).cells.toList = [.int .i64 a.1, .int .i64 a.2] := by simp [acV, Value.cells]
    refine ⟨.string (keyBytes [.int .i64 a.1, .int .i64 a.2]), ?_⟩
    unfold keyOf
    rw [Tryz.underlying48]
    rw [← hcs] at hl
    simp only [hk, hf, Bool.and_self, if_true, hl, Option.map_some]
  inv v l h := by
    obtain ⟨xs, L, rfl, hL, _⟩ := keyOf_top actor_wide h
    obtain ⟨a, ha, hx⟩ := actor_lits _ _ _ hL
    refine ⟨a, ha, ?_⟩
    unfold acV
    congr 1
    apply Array.toList_inj.1
    simpa using hx
  inj a b h := by
    simp [acV] at h
    exact Prod.ext h.1 h.2
end Go.Proofs.YtpakmeegldgjmaaGreat
/- Merged: QV, QS. -/
/- Vectors as marks in order (plain): raised, joined, met, covered. -/
namespace Go.Proofs.YtpakmeegldgjmaaGreat
set_option linter.unusedVariables false

def rightD (x : Dt) : Bool := dotB x.1.1 x.1.2 x.2
theorem rightD_iff (x : Dt) : rightD x = true ↔ 0 ≤ x.1.1 ∧ x.1.1 < 64 ∧ 1 ≤ x.1.2 ∧ x.1.2 ≤ 1048576 ∧ 1 ≤ x.2 ∧ x.2 ≤ 4294967296 := by
  simp only [rightD, dotB, actB, Bool.and_eq_true, decide_eq_true_eq]
  omega
/-- Marks that may be, in order. -/
def Vw (M : List Dt) : Prop := Srt M ∧ ∀ x ∈ M, rightD x = true
theorem Vw.nil : Vw [] := ⟨List.Pairwise.nil, by simp⟩
theorem Vw.tail {x : Dt} {M : List Dt} (h : Vw (x :: M)) : Vw M := ⟨(List.pairwise_cons.1 h.1).2, fun y hy => h.2 y (List.mem_cons_of_mem _ hy)⟩
theorem Vw.ge0 {M : List Dt} (h : Vw M) (a : Ac) : 0 ≤ mget M a := by
  by_cases ha : a ∈ M.map (·.1)
  · obtain ⟨y, hy, rfl⟩ := List.mem_map.1 ha
    rw [mget_mem h.1.nodup hy]
    have := (rightD_iff y).1 (h.2 y hy)
    omega
  · rw [mget_none ha]; omega
theorem Vw.le {M : List Dt} (h : Vw M) (a : Ac) : mget M a ≤ 4294967296 := by
  by_cases ha : a ∈ M.map (·.1)
  · obtain ⟨y, hy, rfl⟩ := List.mem_map.1 ha
    rw [mget_mem h.1.nodup hy]
    have := (rightD_iff y).1 (h.2 y hy)
    omega
  · rw [mget_none ha]; omega
theorem Vw.mem {M : List Dt} (h : Vw M) (x : Dt) : x ∈ M ↔ mget M x.1 = x.2 ∧ 1 ≤ x.2 := by
  rw [srt_iff_mget h.1]
  constructor
  · rintro ⟨h1, h2⟩
    obtain ⟨y, hy, e⟩ := List.mem_map.1 h1
    have := (rightD_iff y).1 (h.2 y hy)
    rw [← e, mget_mem h.1.nodup hy] at h2
    refine ⟨?_, by omega⟩
    rw [← e, mget_mem h.1.nodup hy]; exact h2
  · rintro ⟨h1, h2⟩
    refine ⟨?_, h1⟩
    exact Decidable.byContradiction fun hn => by
      rw [mget_none hn] at h1
      omega
theorem vw_ext {M N : List Dt} (h : Vw M) (k : Vw N) (e : ∀ a, mget M a = mget N a) : M = N :=
  srt_ext h.1 k.1 fun x => by rw [h.mem, k.mem, e]

def raisedB (M : List Dt) (a : Ac) (n : Int) : Bool := rightD (a, n) && decide (mget M a < n)
def rraise (M : List Dt) (a : Ac) (n : Int) : List Dt := if raisedB M a n = true then rset M a n else M
theorem Vw.set {M : List Dt} (h : Vw M) {a : Ac} {n : Int} (hr : rightD (a, n) = true) : Vw (rset M a n) := by
  refine ⟨srt_rset h.1 _ _, fun x hx => ?_⟩
  rcases (mem_rset h.1 _ _ _).1 hx with rfl | ⟨hx, _⟩
  · exact hr
  · exact h.2 x hx
theorem Vw.raise {M : List Dt} (h : Vw M) (a : Ac) (n : Int) : Vw (rraise M a n) := by
  unfold rraise
  split
  · rename_i hr
    simp only [raisedB, Bool.and_eq_true] at hr
    exact h.set hr.1
  · exact h
theorem mget_raise {M : List Dt} (h : Vw M) (a : Ac) (n : Int) (hr : rightD (a, n) = true ∨ n ≤ 0) (c : Ac) : mget (rraise M a n) c = if c = a then max (mget M a) n else mget M c := by
  have h0 := h.ge0 a
  unfold rraise
  by_cases hb : raisedB M a n = true
  · rw [if_pos hb, mget_rset h.1]
    simp only [raisedB, Bool.and_eq_true, decide_eq_true_eq] at hb
    split
    · omega
    · rfl
  · rw [if_neg hb]
    split
    · rename_i e
      subst e
      simp only [raisedB, Bool.and_eq_true, decide_eq_true_eq, not_and] at hb
      rcases hr with hr | hr
      · have := hb hr; omega
      · omega
    · rfl
/-- The greater numbers. -/
def rjoin (M O : List Dt) : List Dt := O.foldl (fun l x => rraise l x.1 x.2) M
theorem mget_cons (x : Dt) (r : List Dt) (c : Ac) : mget (x :: r) c = if x.1 = c then x.2 else mget r c := rfl
theorem mget_join {M O : List Dt} (h : Vw M) (hs : Srt O) (ho : ∀ x ∈ O, rightD x = true ∨ x.2 ≤ 0) (c : Ac) : mget (rjoin M O) c = max (mget M c) (mget O c) := by
  induction O generalizing M with
  | nil =>
    have := h.ge0 c
    show mget M c = max (mget M c) 0
    omega
  | cons x r ih =>
    have hs' := List.pairwise_cons.1 hs
    have hx := ho x (List.mem_cons_self ..)
    have e : rjoin M (x :: r) = rjoin (rraise M x.1 x.2) r := rfl
    rw [e, ih (h.raise _ _) hs'.2 (fun y hy => ho y (List.mem_cons_of_mem _ hy)), mget_raise h _ _ hx, mget_cons]
    have h0 := h.ge0 c
    by_cases hc : c = x.1
    · subst hc
      have hn : mget r x.1 = 0 := mget_none fun hm => by
        obtain ⟨y, hy, e⟩ := List.mem_map.1 hm
        have := hs'.1 y hy
        rw [e, aLt_irrefl] at this; cases this
      rw [if_pos rfl, if_pos rfl, hn]
      omega
    · rw [if_neg hc, if_neg (fun e => hc e.symm)]
/-- The next one of an actor. -/
def takenB (M : List Dt) (x : Dt) : Bool := rightD x && decide (mget M x.1 + 1 = x.2)
def rtake (M : List Dt) (x : Dt) : List Dt := if takenB M x = true then rset M x.1 x.2 else M
theorem Vw.take {M : List Dt} (h : Vw M) (x : Dt) : Vw (rtake M x) := by
  unfold rtake
  split
  · rename_i hr
    simp only [takenB, Bool.and_eq_true] at hr
    exact h.set hr.1
  · exact h
end Go.Proofs.YtpakmeegldgjmaaGreat
/- Sets of dots: a base, exceptions beyond it (plain). -/
namespace Go.Proofs.YtpakmeegldgjmaaGreat
set_option linter.unusedVariables false

/-! Dots in order, each once. -/
def insD : List Dt → Dt → List Dt
  | [], d => [d]
  | x :: r, d => if dLt x d then x :: insD r d else if x = d then x :: r else d :: x :: r
theorem mem_insD (L : List Dt) (d x : Dt) : x ∈ insD L d ↔ x = d ∨ x ∈ L := by
  induction L with
  | nil => simp [insD]
  | cons y r ih =>
    unfold insD
    split
    · rw [List.mem_cons, ih, List.mem_cons]
      constructor
      · rintro (h | h | h)
        · exact .inr (.inl h)
        · exact .inl h
        · exact .inr (.inr h)
      · rintro (h | h | h)
        · exact .inr (.inl h)
        · exact .inl h
        · exact .inr (.inr h)
    · split
      · rename_i h
        subst h
        simp
      · simp
theorem srt_insD {L : List Dt} (h : DSrt L) (d : Dt) : DSrt (insD L d) := by
  induction L with
  | nil => simp [insD, DSrt]
  | cons y r ih =>
    have hs := List.pairwise_cons.1 h
    unfold insD
    split
    · rename_i h1
      refine List.pairwise_cons.2 ⟨fun z hz => ?_, ih hs.2⟩
      rcases (mem_insD _ _ _).1 hz with rfl | hz
      · exact h1
      · exact hs.1 z hz
    · rename_i h1
      split
      · exact h
      · rename_i h2
        have h3 : dLt d y = true := by
          cases h3 : dLt d y with
          | true => rfl
          | false => exact absurd (dLt_tri (by simpa using h1) h3) h2
        refine List.pairwise_cons.2 ⟨fun z hz => ?_, h⟩
        rcases List.mem_cons.1 hz with rfl | hz
        · exact h3
        · exact dLt_trans h3 (hs.1 z hz)
def dsort (l : List Dt) : List Dt := l.foldl insD []
theorem foldl_insD (l L : List Dt) (h : DSrt L) : DSrt (l.foldl insD L) ∧ ∀ x, x ∈ l.foldl insD L ↔ x ∈ L ∨ x ∈ l := by
  induction l generalizing L with
  | nil => exact ⟨h, by simp⟩
  | cons d r ih =>
    obtain ⟨h1, h2⟩ := ih (insD L d) (srt_insD h d)
    refine ⟨h1, fun x => ?_⟩
    rw [List.foldl_cons, h2, mem_insD, List.mem_cons]
    constructor
    · rintro ((h | h) | h)
      · exact .inr (.inl h)
      · exact .inl h
      · exact .inr (.inr h)
    · rintro (h | h | h)
      · exact .inl (.inr h)
      · exact .inl (.inl h)
      · exact .inr h
theorem srt_dsort (l : List Dt) : DSrt (dsort l) := (foldl_insD l [] List.Pairwise.nil).1
theorem mem_dsort (l : List Dt) (x : Dt) : x ∈ dsort l ↔ x ∈ l := by
  rw [dsort, (foldl_insD l [] List.Pairwise.nil).2]; simp
theorem dsort_ext {l m : List Dt} (hm : DSrt m) (h : ∀ x, x ∈ l ↔ x ∈ m) : dsort l = m :=
  dsrt_ext (srt_dsort l) hm fun x => (mem_dsort l x).trans (h x)
theorem DSrt.nodup {L : List Dt} (h : DSrt L) : L.Nodup := pw_nodup dLt_irrefl h
theorem DSrt.filter {L : List Dt} (h : DSrt L) (p : Dt → Bool) : DSrt (L.filter p) := List.Pairwise.filter p h

/-! Up to which number of an actor there are all dots. -/
def IsUp (L : List Dt) (a : Ac) (n : Int) : Prop := 0 ≤ n ∧ (∀ j, 1 ≤ j → j ≤ n → (a, j) ∈ L) ∧ (a, n + 1) ∉ L
theorem isUp_unique {L : List Dt} {a : Ac} {n m : Int} (h : IsUp L a n) (k : IsUp L a m) : n = m := by
  obtain ⟨h1, h2, h3⟩ := h
  obtain ⟨k1, k2, k3⟩ := k
  rcases Int.lt_trichotomy n m with h | h | h
  · exact absurd (k2 (n + 1) (by omega) (by omega)) h3
  · exact h
  · exact absurd (h2 (m + 1) (by omega) (by omega)) k3
/-- How many dots of an actor are above a number. -/
def abv (L : List Dt) (a : Ac) (n : Int) : Nat := (L.filter fun x => decide (x.1 = a ∧ n < x.2)).length
theorem abv_lt {L : List Dt} {a : Ac} {n : Int} (h : (a, n + 1) ∈ L) : abv L a (n + 1) < abv L a n := by
  unfold abv
  induction L with
  | nil => cases h
  | cons x r ih =>
    rw [List.filter_cons, List.filter_cons]
    have hle : (r.filter fun x => decide (x.1 = a ∧ n + 1 < x.2)).length ≤ (r.filter fun x => decide (x.1 = a ∧ n < x.2)).length := by
      have e : (r.filter fun x => decide (x.1 = a ∧ n + 1 < x.2)) = (r.filter fun x => decide (x.1 = a ∧ n < x.2)).filter fun x => decide (x.1 = a ∧ n + 1 < x.2) := by
        rw [List.filter_filter]
        refine List.filter_congr fun y _ => ?_
        rw [Bool.eq_iff_iff]
        simp only [Bool.and_eq_true, decide_eq_true_eq]
        constructor
        · rintro ⟨h1, h2⟩
          exact ⟨⟨h1, h2⟩, h1, by omega⟩
        · rintro ⟨h1, _⟩
          exact h1
      rw [e]
      exact List.length_filter_le _ _
    rcases List.mem_cons.1 h with e | h
    · subst e
      rw [if_neg (by simp), if_pos (by simp; omega)]
      rw [List.length_cons]; omega
    · have := ih h
      by_cases h1 : x.1 = a ∧ n + 1 < x.2
      · rw [if_pos (by simpa using h1), if_pos (by simp; exact ⟨h1.1, by omega⟩)]
        simp only [List.length_cons]; omega
      · rw [if_neg (by simpa using h1)]
        split
        · rw [List.length_cons]; omega
        · exact this
def upF (L : List Dt) (a : Ac) : Nat → Int → Int
  | 0, n => n
  | k + 1, n => if (a, n + 1) ∈ L then upF L a k (n + 1) else n
def upN (L : List Dt) (a : Ac) : Int := upF L a L.length 0
theorem upF_is {L : List Dt} {a : Ac} (k : Nat) (n : Int) (h : abv L a n ≤ k) (h0 : 0 ≤ n) (hk : ∀ j, 1 ≤ j → j ≤ n → (a, j) ∈ L) : IsUp L a (upF L a k n) := by
  induction k generalizing n with
  | zero =>
    refine ⟨h0, hk, fun (hm : (a, n + 1) ∈ L) => ?_⟩
    have := abv_lt hm
    omega
  | succ k ih =>
    unfold upF
    split
    · rename_i hm
      have := abv_lt hm
      refine ih (n + 1) (by omega) (by omega) fun j h1 h2 => ?_
      by_cases hj : j = n + 1
      · subst hj; exact hm
      · exact hk j h1 (by omega)
    · rename_i hm
      exact ⟨h0, hk, hm⟩
theorem upN_is (L : List Dt) (a : Ac) : IsUp L a (upN L a) :=
  upF_is _ _ (List.length_filter_le _ _) (by omega) (fun j h1 h2 => by omega)
theorem upN_eq {L : List Dt} {a : Ac} {n : Int} (h : IsUp L a n) : upN L a = n := isUp_unique (upN_is L a) h
/-- Dots that may be, in order. -/
def Dw (L : List Dt) : Prop := DSrt L ∧ ∀ x ∈ L, rightD x = true
theorem Dw.nil : Dw [] := ⟨List.Pairwise.nil, by simp⟩
def rBaseStep (L : List Dt) (out : List Dt) (x : Dt) : List Dt := if 0 < upN L x.1 then setL out x.1 (upN L x.1) false else out
def rBase (L : List Dt) : List Dt := L.foldl (rBaseStep L) []
def rBeyond (L : List Dt) : List Dt := L.filter fun x => decide (upN L x.1 < x.2)
theorem rBase_fold {L : List Dt} (hL : Dw L) (T out : List Dt) (ho : Vw out) (h : ∀ a, mget out a = 0 ∨ mget out a = upN L a) :
    Vw (T.foldl (rBaseStep L) out) ∧ ∀ a, (mget (T.foldl (rBaseStep L) out) a = upN L a ∨ (mget (T.foldl (rBaseStep L) out) a = 0 ∧ a ∉ T.map (·.1) ∧ mget out a = 0)) := by
  induction T generalizing out with
  | nil =>
    refine ⟨ho, fun a => ?_⟩
    rcases h a with h | h
    · exact .inr ⟨h, by simp, h⟩
    · exact .inl h
  | cons x r ih =>
    rw [List.foldl_cons]
    have hup := upN_is L x.1
    have h1 : Vw (rBaseStep L out x) ∧ ∀ a, mget (rBaseStep L out x) a = if a = x.1 then upN L x.1 else mget out a := by
      unfold rBaseStep
      split
      · rename_i hp
        rw [setL_eq ho.1]
        refine ⟨ho.set (hL.2 _ (hup.2.1 _ (by omega) (by omega))), fun a => mget_rset ho.1 _ _ _⟩
      · rename_i hp
        refine ⟨ho, fun a => ?_⟩
        split
        · rename_i e
          subst e
          have h0 := hup.1
          rcases h x.1 with h | h
          · omega
          · omega
        · rfl
    obtain ⟨h2, h3⟩ := ih _ h1.1 (fun a => by
      rw [h1.2]
      split
      · rename_i e; subst e; exact .inr rfl
      · exact h a)
    refine ⟨h2, fun a => ?_⟩
    rcases h3 a with h4 | ⟨h4, h5, h6⟩
    · exact .inl h4
    · rw [h1.2] at h6
      by_cases e : a = x.1
      · rw [if_pos e] at h6
        subst e
        exact .inl (by rw [h4, h6])
      · rw [if_neg e] at h6
        exact .inr ⟨h4, by simp; exact ⟨e, by simpa using h5⟩, h6⟩
theorem rBase_vw {L : List Dt} (hL : Dw L) : Vw (rBase L) := (rBase_fold hL L [] Vw.nil (fun a => .inl rfl)).1
theorem mget_rBase {L : List Dt} (hL : Dw L) (a : Ac) : mget (rBase L) a = upN L a := by
  rcases (rBase_fold hL L [] Vw.nil (fun a => .inl rfl)).2 a with h | ⟨h, h2, _⟩
  · exact h
  · have : upN L a = 0 := upN_eq ⟨by omega, fun j h1 h3 => by omega, fun hm => h2 (List.mem_map.2 ⟨_, hm, rfl⟩)⟩
    rw [this]; exact h

/-! A base and exceptions. -/
def inS (M B : List Dt) (d : Dt) : Prop := d ∈ B ∨ (rightD d = true ∧ d.2 ≤ mget M d.1)
structure Sw (M B : List Dt) : Prop where
  vw : Vw M
  srt : DSrt B
  right : ∀ d ∈ B, rightD d = true
def Dis (M B : List Dt) : Prop := ∀ d ∈ B, mget M d.1 < d.2
def Good (M B : List Dt) (a : Ac) : Prop := (a, mget M a + 1) ∉ B
/-- The base and the exceptions of dots. -/
structure SetL (M B L : List Dt) : Prop where
  sw : Sw M B
  dis : Dis M B
  good : ∀ a, Good M B a
  dw : Dw L
  mem : ∀ d, d ∈ L ↔ inS M B d
theorem Vw.low {M : List Dt} (h : Vw M) {a : Ac} {j : Int} (h1 : 1 ≤ j) (h2 : j ≤ mget M a) : rightD (a, j) = true := by
  have hm : (a, mget M a) ∈ M := (h.mem _).2 ⟨rfl, by simp; omega⟩
  have := (rightD_iff _).1 (h.2 _ hm)
  rw [rightD_iff]
  simp only at *
  omega
theorem SetL.up {M B L : List Dt} (h : SetL M B L) (a : Ac) : upN L a = mget M a := by
  refine upN_eq ⟨h.sw.vw.ge0 a, fun j h1 h2 => (h.mem _).2 (.inr ⟨h.sw.vw.low h1 h2, h2⟩), fun hm => ?_⟩
  rcases (h.mem _).1 hm with h1 | ⟨_, h1⟩
  · exact h.good a h1
  · simp only at h1; omega
theorem SetL.base {M B L : List Dt} (h : SetL M B L) : rBase L = M :=
  vw_ext (rBase_vw h.dw) h.sw.vw fun a => by rw [mget_rBase h.dw, h.up]
theorem SetL.beyond {M B L : List Dt} (h : SetL M B L) : rBeyond L = B := by
  refine dsrt_ext (h.dw.1.filter _) h.sw.srt fun x => ?_
  unfold rBeyond
  rw [List.mem_filter, h.mem, h.up, decide_eq_true_eq]
  constructor
  · rintro ⟨h1 | ⟨_, h1⟩, h2⟩
    · exact h1
    · omega
  · intro hx
    exact ⟨.inl hx, h.dis x hx⟩
theorem SetL.nil : SetL [] [] [] where
  sw := ⟨Vw.nil, List.Pairwise.nil, by simp⟩
  dis := by intro d hd; cases hd
  good := by intro a h; cases h
  dw := Dw.nil
  mem d := by
    unfold inS
    constructor
    · intro h; cases h
    · rintro (h | ⟨h1, h2⟩)
      · cases h
      · have := (rightD_iff d).1 h1
        have : mget ([] : List Dt) d.1 = 0 := rfl
        omega
/-- What filling does at an actor. -/
structure FillR (M B : List Dt) (a : Ac) (M' B' : List Dt) : Prop where
  sw : Sw M' B'
  same : ∀ e, inS M' B' e ↔ inS M B e
  num : ∀ c, c ≠ a → mget M' c = mget M c
  bey : ∀ e : Dt, e.1 ≠ a → (e ∈ B' ↔ e ∈ B)
  sub : ∀ e ∈ B', e ∈ B
  dis : Dis M B → Dis M' B'
theorem FillR.refl {M B : List Dt} (h : Sw M B) (a : Ac) : FillR M B a M B := ⟨h, fun _ => Iff.rfl, fun _ _ => rfl, fun _ _ => Iff.rfl, fun _ h => h, fun h => h⟩
theorem FillR.trans {M B M1 B1 M2 B2 : List Dt} {a : Ac} (h : FillR M B a M1 B1) (k : FillR M1 B1 a M2 B2) : FillR M B a M2 B2 :=
  ⟨k.sw, fun e => (k.same e).trans (h.same e), fun c hc => (k.num c hc).trans (h.num c hc), fun e he => (k.bey e he).trans (h.bey e he), fun e he => h.sub e (k.sub e he), fun hd => k.dis (h.dis hd)⟩
theorem FillR.good {M B M' B' : List Dt} {a c : Ac} (h : FillR M B a M' B') (hc : c ≠ a) (hg : Good M B c) : Good M' B' c := by
  unfold Good at *
  rw [h.num c hc, h.bey _ (by simpa using hc)]
  exact hg
theorem FillR.step {M B : List Dt} (h : Sw M B) {a : Ac} {n : Int} (hn : n = mget M a + 1) (hd : (a, n) ∈ B) :
    FillR M B a (rset M a n) (B.filter fun x => decide (x ≠ (a, n))) := by
  have hr := h.right _ hd
  have hv : Vw (rset M a n) := h.vw.set hr
  have hmem : ∀ e : Dt, e ∈ (B.filter fun x => decide (x ≠ (a, n))) ↔ e ∈ B ∧ e ≠ (a, n) := fun e => by rw [List.mem_filter, decide_eq_true_eq]
  refine ⟨⟨hv, h.srt.filter _, fun e he => h.right e ((hmem e).1 he).1⟩, fun e => ?_, fun c hc => by rw [mget_rset h.vw.1, if_neg hc], fun e he => ?_, fun e he => ((hmem e).1 he).1, fun hdis e he => ?_⟩
  · unfold inS
    rw [hmem, mget_rset h.vw.1]
    constructor
    · rintro (⟨h1, _⟩ | ⟨h1, h2⟩)
      · exact .inl h1
      · split at h2
        · rename_i ha
          by_cases he : e.2 = n
          · have : e = (a, n) := Prod.ext ha he
            rw [this]; exact .inl hd
          · rw [ha]
            exact .inr ⟨h1, by omega⟩
        · exact .inr ⟨h1, h2⟩
    · rintro (h1 | ⟨h1, h2⟩)
      · by_cases he : e = (a, n)
        · subst he
          exact .inr ⟨hr, by simp⟩
        · exact .inl ⟨h1, he⟩
      · refine .inr ⟨h1, ?_⟩
        split
        · rename_i ha
          rw [ha] at h2; omega
        · exact h2
  · rw [hmem]
    constructor
    · exact fun h => h.1
    · exact fun h => ⟨h, fun e' => he (by rw [e'])⟩
  · obtain ⟨h1, h2⟩ := (hmem e).1 he
    have := hdis e h1
    rw [mget_rset h.vw.1]
    split
    · rename_i ha
      rw [ha] at this
      have : e.2 ≠ n := fun e2 => h2 (Prod.ext ha e2)
      omega
    · exact this
/-- A dot more: put beyond, then filled. -/
theorem SetL.add {M B L M' B' : List Dt} (h : SetL M B L) {d : Dt} (hr : rightD d = true) (hn : ¬ inS M B d)
    (hf : FillR M (insD B d) d.1 M' B') (hg : Good M' B' d.1) : SetL M' B' (insD L d) := by
  have hdis : Dis M (insD B d) := fun e he => by
    rcases (mem_insD _ _ _).1 he with rfl | he
    · rcases Int.lt_or_le (mget M e.1) e.2 with h1 | h1
      · exact h1
      · exact absurd (.inr ⟨hr, h1⟩) hn
    · exact h.dis e he
  refine ⟨hf.sw, hf.dis hdis, fun a => ?_, ⟨srt_insD h.dw.1 d, fun x hx => ?_⟩, fun e => ?_⟩
  · by_cases ha : a = d.1
    · subst ha; exact hg
    · refine hf.good ha fun hm => ?_
      rcases (mem_insD _ _ _).1 hm with h1 | h1
      · exact ha (by rw [← h1])
      · exact h.good a h1
  · rcases (mem_insD _ _ _).1 hx with rfl | hx
    · exact hr
    · exact h.dw.2 x hx
  · rw [mem_insD, hf.same, h.mem]
    unfold inS
    rw [mem_insD]
    constructor
    · rintro (h1 | h1 | h1)
      · exact .inl (.inl h1)
      · exact .inl (.inr h1)
      · exact .inr h1
    · rintro ((h1 | h1) | h1)
      · exact .inl h1
      · exact .inr (.inl h1)
      · exact .inr (.inr h1)
/-- As the document adds. -/
def rAdd (L : List Dt) (d : Dt) : List Dt := if rightD d = true then dsort (L ++ [d]) else L
theorem rAdd_right {L : List Dt} (h : Dw L) {d : Dt} (hr : rightD d = true) : rAdd L d = insD L d := by
  unfold rAdd
  rw [if_pos hr]
  refine dsort_ext (srt_insD h.1 d) fun x => ?_
  rw [List.mem_append, List.mem_singleton, mem_insD]
  exact Or.comm
theorem Dw.add {L : List Dt} (h : Dw L) (d : Dt) : Dw (rAdd L d) := by
  by_cases hr : rightD d = true
  · rw [rAdd_right h hr]
    refine ⟨srt_insD h.1 d, fun x hx => ?_⟩
    rcases (mem_insD _ _ _).1 hx with rfl | hx
    · exact hr
    · exact h.2 x hx
  · unfold rAdd
    rw [if_neg hr]; exact h
end Go.Proofs.YtpakmeegldgjmaaGreat
/- Merged: E1, S1, S2. -/
/- Dots, or marks, as cells: a slice that reads as a list of them. -/
namespace Go.Proofs.YtpakmeegldgjmaaGreat
open Go.RowKit
set_option linter.unusedVariables false
set_option maxRecDepth 100000

theorem flatMap_at {α : Type} (enc : α → List Value) (k : Nat) (hk : ∀ x, (enc x).length = k) (l : List α) (t : Nat) : (l.flatMap enc)[t]? = (l[t / k]?).bind fun x => (enc x)[t % k]? := by
  induction l generalizing t with
  | nil => simp
  | cons x r ih =>
    rw [List.flatMap_cons]
    by_cases h : t < k
    · rw [List.getElem?_append_left (by rw [hk]; exact h), Nat.div_eq_of_lt h, Nat.mod_eq_of_lt h]
      rfl
    · have hk0 : 0 < k ∨ k = 0 := by omega
      rcases hk0 with hk0 | hk0
      · obtain ⟨u, rfl⟩ : ∃ u, t = u + k := ⟨t - k, by omega⟩
        rw [List.getElem?_append_right (by rw [hk]; omega), hk, Nat.add_sub_cancel, ih, Nat.add_div_right _ hk0, Nat.add_mod_right]
        rfl
      · subst hk0
        have hz : ∀ y, enc y = [] := fun y => List.eq_nil_of_length_eq_zero (hk y)
        rw [hz, List.nil_append, ih]
        simp [hz]
theorem wf_of {n : Int} (h1 : -9223372036854775808 ≤ n) (h2 : n ≤ 9223372036854775807) : (Lit.int .i64 n).wf = true := by
  have e1 : IntKind.i64.min = -9223372036854775808 := by decide
  have e2 : IntKind.i64.max = 9223372036854775807 := by decide
  simp only [Lit.wf, e1, e2, Bool.and_eq_true, decide_eq_true_eq]
  exact ⟨h1, h2⟩
/-- Dots, or marks, as cells. -/
def dts (L : List Dt) : List Value := L.flatMap dtC
theorem dtC_len (x : Dt) : (dtC x).length = 3 := rfl
theorem dts_get {L : List Dt} {i : Nat} {x : Dt} (h : L[i]? = some x) : (dts L)[i * 3]? = some (.int .i64 x.1.1) ∧ (dts L)[i * 3 + 1]? = some (.int .i64 x.1.2) ∧ (dts L)[i * 3 + 2]? = some (.int .i64 x.2) := by
  have e := flatMap_at dtC 3 dtC_len L
  unfold dts
  rw [e, e, e, show i * 3 / 3 = i by omega, show (i * 3 + 1) / 3 = i by omega, show (i * 3 + 2) / 3 = i by omega, show i * 3 % 3 = 0 by omega, show (i * 3 + 1) % 3 = 1 by omega, show (i * 3 + 2) % 3 = 2 by omega, h]
  exact ⟨rfl, rfl, rfl⟩
/-- A slice that reads as dots (or marks). -/
def Ds (w : World) (B : Nat) (A : Option Addr) (L : List Dt) : Prop := Rd w B 3 A L.length (dts L)
theorem Ds.below {w w' : World} {B : Nat} {A : Option Addr} {L : List Dt} (h : Ds w B A L) (hb : Below B w w') : Ds w' B A L := Rd.below h hb
theorem Ds.more {w : World} {B B' : Nat} {A : Option Addr} {L : List Dt} (h : Ds w B A L) (hb : B ≤ B') : Ds w B' A L := Rd.more h hb
theorem Ds.at_ {w : World} {B i : Nat} {A : Option Addr} {L : List Dt} {x : Dt} (h : Ds w B A L) (hx : L[i]? = some x) : ∃ b o, A = some ⟨b, o, none⟩ ∧ b < B ∧ w.cell? ⟨b, o + i * 3, none⟩ = some (.int .i64 x.1.1) ∧ w.cell? ⟨b, o + i * 3 + 1, none⟩ = some (.int .i64 x.1.2) ∧ w.cell? ⟨b, o + i * 3 + 2, none⟩ = some (.int .i64 x.2) := by
  have hi : i < L.length := (List.getElem?_eq_some_iff.1 hx).1
  obtain ⟨b, o, hA, hb, hc⟩ := h.2 (by omega)
  obtain ⟨e0, e1, e2⟩ := dts_get hx
  exact ⟨b, o, hA, hb, hc _ _ e0, by rw [Nat.add_assoc]; exact hc _ _ e1, by rw [Nat.add_assoc]; exact hc _ _ e2⟩
theorem Own.ds {w : World} {base c : Nat} {e : TypeId} {A : Option Addr} {L : List Dt} (h : Own w base e 3 A L.length c (dts L)) : Ds w w.heap.size A L := h.rd
end Go.Proofs.YtpakmeegldgjmaaGreat
/- Comparing actors, dots: no draw is lost (slices.SortFunc wants to know). -/
namespace Go.Proofs.YtpakmeegldgjmaaGreat
open Go.RowKit Go.Sort
set_option linter.unusedVariables false
set_option maxRecDepth 100000

/-- As Below, and no draw is lost. -/
def UpN (n : Nat) (w w' : World) : Prop := Below n w w' ∧ w.drawn ≤ w'.drawn
theorem UpN.refl (n : Nat) (w : World) : UpN n w w := ⟨Below.refl _ _, Nat.le_refl _⟩
theorem UpN.drew {n : Nat} {w w' : World} (h : UpN n w w') : UpN n w w'.drew := ⟨h.1.drew, by have := h.2; show w.drawn ≤ w'.drawn + 1; omega⟩
theorem UpN.alloc {n : Nat} {w w' : World} (h : UpN n w w') (hn : n ≤ w'.heap.size) (o : Obj) : UpN n w (w'.alloc o) := ⟨h.1.alloc hn o, h.2⟩
theorem UpN.trans {n : Nat} {w w1 w2 : World} (h : UpN n w w1) (k : UpN n w1 w2) : UpN n w w2 := ⟨h.1.trans k.1, Nat.le_trans h.2 k.2⟩
theorem UpN.le {n m : Nat} {w w' : World} (h : UpN n w w') (hm : m ≤ n) : UpN m w w' := ⟨below_of_le h.1 hm, h.2⟩
theorem up_boxes (w : World) (t : TypeId) (xs ys : Array Value) : UpN w.heap.size w ((w.alloc (.cells xs t)).alloc (.cells ys t)) :=
  ((UpN.refl _ w).alloc (Nat.le_refl _) _).alloc (by simp) _
/-- Two boxed dots, as cells. -/
def TwoUp (n : Nat) (d i s d' i' s' : Int) (w W : World) : Prop :=
  UpN n w W ∧ n + 2 ≤ W.heap.size ∧ W.cell? ⟨n, 0, none⟩ = some (.int .i64 d) ∧ W.cell? ⟨n, 1, none⟩ = some (.int .i64 i) ∧ W.cell? ⟨n, 2, none⟩ = some (.int .i64 s) ∧
    W.cell? ⟨n + 1, 0, none⟩ = some (.int .i64 d') ∧ W.cell? ⟨n + 1, 1, none⟩ = some (.int .i64 i') ∧ W.cell? ⟨n + 1, 2, none⟩ = some (.int .i64 s')
theorem TwoUp.step {n : Nat} {d i s d' i' s' : Int} {w W W' : World} (h : TwoUp n d i s d' i' s' w W) (b : UpN W.heap.size W W') : TwoUp n d i s d' i' s' w W' := by
  obtain ⟨h0, h1, c0, c1, c2, c3, c4, c5⟩ := h
  have hb := b.1.size
  refine ⟨h0.trans (b.le (by omega)), by omega, ?_, ?_, ?_, ?_, ?_, ?_⟩
  all_goals
    rw [b.1.cell (by simp only; omega)]
    assumption
theorem TwoUp.new (w : World) (d i s d' i' s' : Int) (t : TypeId) : TwoUp w.heap.size d i s d' i' s' w ((w.alloc (.cells #[.int .i64 d, .int .i64 i, .int .i64 s] t)).alloc (.cells #[.int .i64 d', .int .i64 i', .int .i64 s'] t)) := by
  obtain ⟨h0, h1, h2, h3⟩ := boxes_new w t #[.int .i64 d, .int .i64 i, .int .i64 s] #[.int .i64 d', .int .i64 i', .int .i64 s']
  refine ⟨up_boxes _ _ _ _, by omega, ?_, ?_, ?_, ?_, ?_, ?_⟩
  all_goals first | (rw [h2.cell]; rfl) | (rw [h3.cell]; rfl)
end Go.Proofs.YtpakmeegldgjmaaGreat
/- A row of k cells an element that the call has built, sorted: between the words of append and of the sort. -/
namespace Go.Proofs.YtpakmeegldgjmaaGreat
open Go.RowKit Go.Sort
set_option linter.unusedVariables false

end Go.Proofs.YtpakmeegldgjmaaGreat
/- Merged: M7, M8, M9. -/
/- 'm[k]++' on a map of whole numbers: the entry taken, its number stored. -/
namespace Go.Proofs.YtpakmeegldgjmaaGreat
open Go.RowKit Go.ChangeMaps
set_option linter.unusedVariables false
set_option maxRecDepth 100000

section
variable {α : Type} {P : Program} {k e : TypeId} {kV : α → Value} {ok : α → Prop} {w : World} {b : Nat} {W : List (α × Int)}
end
end Go.Proofs.YtpakmeegldgjmaaGreat
/- Layer 16 (dot): Sort. -/
namespace Go.Proofs.YtpakmeegldgjmaaGreat
open Go.RowKit
set_option linter.unusedVariables false
set_option maxRecDepth 100000

/-- The keys of a map that counts are the dots that came. -/
def Cnt (L : List Dt) (j : Nat) (W : List (Dt × Int)) : Prop := W.length ≤ j ∧ (∀ x, x ∈ W.map (·.1) ↔ x ∈ L.take j) ∧ ∀ p ∈ W, 0 ≤ p.2 ∧ p.2 ≤ j
theorem Cnt.get {L : List Dt} {j : Nat} {W : List (Dt × Int)} (h : Cnt L j W) (x : Dt) : 0 ≤ mget W x ∧ mget W x ≤ j := by
  induction W with
  | nil => exact ⟨Int.le_refl 0, by show (0 : Int) ≤ j; omega⟩
  | cons p r ih =>
    unfold mget
    split
    · exact h.2.2 p (List.mem_cons_self ..)
    · have hr : ∀ q ∈ r, 0 ≤ q.2 ∧ q.2 ≤ (j : Int) := fun q hq => h.2.2 q (List.mem_cons_of_mem _ hq)
      clear ih h
      induction r with
      | nil => exact ⟨Int.le_refl 0, by show (0 : Int) ≤ j; omega⟩
      | cons q s ih =>
        unfold mget
        split
        · exact hr q (List.mem_cons_self ..)
        · exact ih fun q hq => hr q (List.mem_cons_of_mem _ hq)
theorem Cnt.step {L : List Dt} {j : Nat} {W : List (Dt × Int)} {x : Dt} (h : Cnt L j W) (hx : L[j]? = some x) : Cnt L (j + 1) ((x, mget W x + 1) :: W.filter fun p => decide (p.1 ≠ x)) := by
  have hg := h.get x
  refine ⟨?_, fun y => ?_, fun p hp => ?_⟩
  · have := List.length_filter_le (fun p : Dt × Int => decide (p.1 ≠ x)) W
    have := h.1
    simp only [List.length_cons]; omega
  · rw [List.take_add_one, hx, List.mem_append, ← h.2.1]
    rw [Option.toList_some, List.mem_singleton, List.map_cons, List.mem_cons, List.mem_map, List.mem_map]
    constructor
    · rintro (e | ⟨p, hp, e⟩)
      · exact .inr e
      · exact .inl ⟨p, (List.mem_filter.1 hp).1, e⟩
    · rintro (⟨p, hp, e⟩ | e)
      · by_cases hpx : p.1 = x
        · exact .inl (e.symm.trans hpx)
        · exact .inr ⟨p, List.mem_filter.2 ⟨hp, by simpa using hpx⟩, e⟩
      · exact .inl e
  · rcases List.mem_cons.1 hp with rfl | hp
    · simp only; omega
    · have := h.2.2 p (List.mem_filter.1 hp).1
      omega
end Go.Proofs.YtpakmeegldgjmaaGreat
/- Layer 16, the document's lists of dots: Has, Same; the openers of []api.Dot, []api.Mark as lists. -/
namespace Go.Proofs.YtpakmeegldgjmaaGreat
open Go.RowKit
set_option linter.unusedVariables false
set_option maxRecDepth 100000

theorem four (x1 x2 x3 d1 d2 d3 : Int) : (x1 = d1 ∧ x2 = d2 ∧ x3 = d3) ∨ (x1 ≠ d1 ∨ (x1 = d1 ∧ x2 ≠ d2) ∨ (x1 = d1 ∧ x2 = d2 ∧ x3 ≠ d3)) := by omega
theorem rsame16_any (w : World) (B B' : Nat) (A A' : Option Addr) (c c' : Nat) (L M : List Dt) (hr : Ds w B A L) (hr' : Ds w B' A' M) (hB : B ≤ w.heap.size) (hB' : B' ≤ w.heap.size) (hn : L.length ≤ 9223372036854775807) :
    Calls Tryz.prog 92 #[.slice A L.length c, .slice A' M.length c'] w fun e w' => e = .returned (.bool (decide (L = M))) ∧ Below w.heap.size w w' := by
  by_cases hne : L.length = M.length
  · have HL2 := Lib.hid hne
    rw [← hne]
    generalize hlen : L.length = n at *
    have HL := Lib.hid hlen
    have HR := Lib.hid (And.intro hr hr')
    clear hlen hr hr' hne
    generalize hN : w.heap.size = N at *
    have B0 := Lib.hid (Below.refl N w)
    go_enter Tryz.func92, Tryz.ntmps92
    go_wp2_with fail
    go_loopw [5] (fun i wr => ∃ j : Nat, j ≤ n ∧ i = .int .i64 j ∧ L.take j = M.take j ∧ Below N w wr) (fun i _ => n - (intOf i).toNat)
    case atStart => exact ⟨0, by omega, rfl, by simp, B0.out⟩
    case round =>
      obtain ⟨j, hj, rfl, hno, hb⟩ := hrel
      have HNO := Lib.hid hno
      clear hno B0
      by_cases hlt : j < n
      · obtain ⟨x, hx⟩ : ∃ x, L[j]? = some x := ⟨L[j]'(by have := HL.out; omega), List.getElem?_eq_getElem _⟩
        obtain ⟨y, hy⟩ : ∃ y, M[j]? = some y := ⟨M[j]'(by have := HL2.out; omega), List.getElem?_eq_getElem _⟩
        obtain ⟨b0, o0, hA, hb0, c0, c1, c2⟩ := (HR.out.1.below (hb.mono hB)).at_ hx
        obtain ⟨b1, o1, hA', hb1, e0, e1, e2⟩ := (HR.out.2.below (hb.mono hB')).at_ hy
        have HX := Lib.hid (And.intro hx hy)
        have HB := Lib.hid hb
        clear hx hy hb
        obtain ⟨⟨x1, x2⟩, x3⟩ := x
        obtain ⟨⟨y1, y2⟩, y3⟩ := y
        simp only at c0 c1 c2 e0 e1 e2
        subst hA hA'
        rcases four x1 x2 x3 y1 y2 y3 with ⟨rfl, rfl, rfl⟩ | he
        · have hno2 := Lib.hid (show L.take (j + 1) = M.take (j + 1) by
            rw [List.take_add_one, List.take_add_one, HX.out.1, HX.out.2, HNO.out])
          go_wp2_with fail
          go_region
          go_wp2
          go_roundw
          case rel => exact ⟨j + 1, by omega, by go_num, hno2.out, HB.out.drew⟩
          case measure => simp [intOf]; omega
        · have hin := Lib.hid (show decide (L = M) = false from decide_eq_false fun h => by
            subst h
            have := HX.out.1.symm.trans HX.out.2
            simp at this
            rcases he with he | ⟨_, he⟩ | ⟨_, _, he⟩
            · exact he this.1.1
            · exact he this.1.2
            · exact he this.2)
          rcases he with h1 | ⟨h1, h2⟩ | ⟨h1, h2, h3⟩
          all_goals
            go_wp2_with fail
            go_region
            go_wp2
            go_ret
            exact ⟨ret_bool hin.out.symm, HB.out.drew⟩
      · have hj' : j = n := by omega
        subst hj'
        have hin := Lib.hid (show decide (L = M) = true from decide_eq_true (by
          have := HNO.out
          rwa [List.take_of_length_le (by have := HL.out; omega), List.take_of_length_le (by have := HL2.out; omega)] at this))
        have HB := Lib.hid hb
        clear hb
        go_wp2
        go_ret
        exact ⟨ret_bool hin.out.symm, HB.out⟩
  · have hin : decide (L = M) = false := decide_eq_false fun h => hne (by rw [h])
    rw [hin]
    have B0 := Lib.hid (Below.refl w.heap.size w)
    have h1 : ((L.length : Int) == (M.length : Int)) = false := by simp; omega
    clear hr hr' hin
    generalize L.length = n at *
    generalize M.length = m at *
    go_enter Tryz.func92, Tryz.ntmps92
    go_wp2
    go_ret
    exact ⟨rfl, B0.out⟩
end Go.Proofs.YtpakmeegldgjmaaGreat
/- The opener of []api.Mark; slices of dots or marks as lists. -/
namespace Go.Proofs.YtpakmeegldgjmaaGreat
open Go.ChangeShapes Go.WideShapes Go.ChangeAt Go.RowKit Go.Deep
set_option linter.unusedVariables false
set_option maxRecDepth 100000

theorem mark_of_trod {H : Type} {enc : TypeId × Value → H} {W : World} {fuel : Nat} {cs : List Value} {x : DataW H × List MemPlace}
    (hf : DataW.trod enc Tryz.prog W 0 (fun _ => true) true fuel 111 cs = some x) : ∃ d i s : Int, cs = [.int .i64 d, .int .i64 i, .int .i64 s] ∧ i64B d ∧ i64B i ∧ i64B s := by
  have hC : Tryz.prog.cellsOf 111 = 3 := by kernel_rfl
  have hCA : Tryz.prog.cellsOf 48 = 2 := by kernel_rfl
  have hC1 : Tryz.prog.cellsOf 3 = 1 := by kernel_rfl
  obtain ⟨y0, y1, n, _, hl, h0, h1⟩ := trod_struct2 Tryz.underlying111 hf
  rw [hC] at hl
  obtain ⟨c0, c1, c2, rfl⟩ : ∃ a b c, cs = [a, b, c] := by
    match cs, hl with
    | [a, b, c], _ => exact ⟨a, b, c, rfl⟩
  simp only [hCA, hC1] at h0 h1
  obtain ⟨z0, z1, n', _, hl', g0, g1⟩ := trod_struct2 Tryz.underlying48 h0
  simp only [hC1] at g0 g1
  obtain ⟨a, e0, _, w0⟩ := DataW.trod_int Tryz.underlying3 g0
  obtain ⟨b, e1, _, w1⟩ := DataW.trod_int Tryz.underlying3 g1
  obtain ⟨c, e2, _, w2⟩ := DataW.trod_int Tryz.underlying3 h1
  simp at e0 e1 e2
  subst e0 e1 e2
  exact ⟨a, b, c, rfl, bounds_i64 w0, bounds_i64 w1, bounds_i64 w2⟩
/-- Whole numbers of a machine. -/
def dB (x : Dt) : Prop := i64B x.1.1 ∧ i64B x.1.2 ∧ i64B x.2
theorem dB.ok {x : Dt} (h : dB x) : dtOk x := ⟨wf_of h.1.1 h.1.2, wf_of h.2.1.1 h.2.1.2, wf_of h.2.2.1 h.2.2.2⟩
end Go.Proofs.YtpakmeegldgjmaaGreat
/- Layer 16, the document's Sort of dots. -/
namespace Go.Proofs.YtpakmeegldgjmaaGreat
open Go.RowKit
set_option linter.unusedVariables false
set_option maxRecDepth 100000

/-! Cuts of slices of three cells an element. -/
theorem Rd.front3 {w : World} {B n k : Nat} {A : Option Addr} {xs : List Value} (h : Rd w B 3 A n xs) (hk : k ≤ n) : Rd w B 3 A k (xs.take (k * 3)) := by
  refine ⟨by rw [List.length_take, h.1]; omega, fun hn => ?_⟩
  obtain ⟨b, o, rfl, hb, hcell⟩ := h.2 (by omega)
  refine ⟨b, o, rfl, hb, fun j u hu => hcell j u ?_⟩
  rw [List.getElem?_take] at hu
  split at hu
  · exact hu
  · cases hu
theorem dts_take (L : List Dt) (k : Nat) : (dts L).take (k * 3) = dts (L.take k) := by
  induction L generalizing k with
  | nil => simp [dts]
  | cons x r ih =>
    cases k with
    | zero => simp [dts]
    | succ k =>
      show (dtC x ++ dts r).take ((k + 1) * 3) = dtC x ++ dts (r.take k)
      rw [← ih, List.take_append, dtC_len, show (k + 1) * 3 - 3 = k * 3 by omega, List.take_of_length_le (by rw [dtC_len]; omega)]
theorem dtC_one (x : Dt) : ∀ u ∈ dtC x, u.oneCell' = true := by
  intro u hx
  simp [dtC] at hx
  rcases hx with rfl | rfl | rfl <;> rfl
theorem Ds.front {w : World} {B k : Nat} {A : Option Addr} {L : List Dt} (h : Ds w B A L) (hk : k ≤ L.length) : Rd w B 3 A k (dts (L.take k)) := by
  rw [← dts_take]; exact Rd.front3 h hk
section
variable {P : Program} (t : TypeId) (ht : P.underlying t = some (.slice (P.elem t))) (hs : ∀ w, (sizeOf (P.elem t)).run P w = .ok 3 w)
include ht hs
end
theorem rd_fresh3 (w : World) (x : Dt) (e : TypeId) : Rd (w.alloc (.cells #[.int .i64 x.1.1, .int .i64 x.1.2, .int .i64 x.2] e)) (w.heap.size + 1) 3 (some ⟨w.heap.size, 0, none⟩) 1 (dtC x) :=
  ⟨rfl, fun _ => ⟨_, _, rfl, by omega, fun j u hu => by rw [(Whole.new w e #[.int .i64 x.1.1, .int .i64 x.1.2, .int .i64 x.2]).cell, Nat.zero_add, ← Array.getElem?_toList]; exact hu⟩⟩
theorem info_dt : (Tryz.prog.info? 50).map (fun i => (i.zero, i.size, i.bytes)) = some (some (.agg #[.int .i64 0, .int .i64 0, .int .i64 0]), 3, 24) := by kernel_rfl
theorem rless_dLt (x y : Dt) : rlessB x.1.1 x.1.2 x.2 y.1.1 y.1.2 y.2 = dLt x y := by
  rw [Bool.eq_iff_iff]
  unfold rlessB aheadB dLt
  repeat' split
  all_goals (simp only [decide_eq_true_eq]; omega)
end Go.Proofs.YtpakmeegldgjmaaGreat
/- Merged: Y0, Y1, Y2, Y3, Y4. -/
/- Vectors (plain): how many marks there are at most; sums. -/
namespace Go.Proofs.YtpakmeegldgjmaaGreat
set_option linter.unusedVariables false

theorem nodup_len : ∀ (N : Nat) (l : List Nat), l.Nodup → (∀ x ∈ l, x < N) → l.length ≤ N
  | 0, [], _, _ => Nat.le_refl _
  | 0, x :: r, _, h => absurd (h x (List.mem_cons_self ..)) (by omega)
  | N + 1, l, hn, h => by
    have h1 := nodup_len N (l.erase N) (hn.erase N) (fun x hx => by
      have hx' := (hn.mem_erase_iff).1 hx
      have := h x hx'.2
      have := hx'.1
      omega)
    rw [List.length_erase] at h1
    split at h1 <;> omega
def acN (a : Ac) : Nat := a.1.toNat * 1048577 + a.2.toNat
theorem Vw.len {M : List Dt} (h : Vw M) : M.length ≤ 67108928 := by
  have hr : ∀ a ∈ M.map (·.1), 0 ≤ a.1 ∧ a.1 < 64 ∧ 1 ≤ a.2 ∧ a.2 ≤ 1048576 := fun a ha => by
    obtain ⟨x, hx, rfl⟩ := List.mem_map.1 ha
    have := (rightD_iff x).1 (h.2 x hx)
    omega
  have hn : ((M.map (·.1)).map acN).Nodup := by
    have h1 := h.1.nodup
    rw [List.nodup_iff_pairwise_ne] at h1 ⊢
    rw [List.pairwise_map]
    refine h1.imp_of_mem fun {a b} ha hb hne he => hne ?_
    have h2 := hr a ha
    have h3 := hr b hb
    unfold acN at he
    exact ac_ext (by omega) (by omega)
  have := nodup_len 67108928 _ hn fun x hx => by
    obtain ⟨a, ha, rfl⟩ := List.mem_map.1 hx
    have := hr a ha
    unfold acN
    omega
  simpa using this
end Go.Proofs.YtpakmeegldgjmaaGreat
/- Layer 17 (vector): New, right, Get, Has. -/
namespace Go.Proofs.YtpakmeegldgjmaaGreat
open Go.RowKit
set_option linter.unusedVariables false
set_option maxRecDepth 100000

/-- v points to a vector with the marks M; its map lies in block b. -/
def VecIs (w : World) (v b : Nat) (M : List Dt) : Prop := Whole w v 146 #[.map (some b)] ∧ MapIs Tryz.prog 48 3 acV acOk w b M ∧ Vw M
section
variable {w w' : World} {v b : Nat} {M : List Dt}
theorem VecIs.ltv (h : VecIs w v b M) : v < w.heap.size := h.1.lt
theorem VecIs.ltb (h : VecIs w v b M) : b < w.heap.size := h.2.1.lt
theorem VecIs.ne (h : VecIs w v b M) : v ≠ b := by
  rintro rfl
  obtain ⟨es, clock, hb, _⟩ := h.2.1.1
  have h1 := h.1
  unfold Whole at h1
  rw [h1] at hb
  cases hb
theorem VecIs.block (h : VecIs w v b M) (h1 : w'.heap[v]? = w.heap[v]?) (h2 : w'.heap[b]? = w.heap[b]?) : VecIs w' v b M := ⟨h1.trans h.1, h.2.1.block h2, h.2.2⟩
theorem VecIs.below {B : Nat} (h : VecIs w v b M) (hb : Below B w w') (h1 : v < B) (h2 : b < B) : VecIs w' v b M := h.block (hb.block v h1) (hb.block b h2)
theorem VecIs.up (h : VecIs w v b M) (hb : Below w.heap.size w w') : VecIs w' v b M := h.below hb h.ltv h.ltb
theorem VecIs.alloc (h : VecIs w v b M) (o : Obj) : VecIs (w.alloc o) v b M := h.up ((Below.refl _ _).alloc (Nat.le_refl _) _)
theorem VecIs.drew (h : VecIs w v b M) : VecIs w.drew v b M := h
theorem VecIs.ch {S : Nat → Prop} (h : VecIs w v b M) (hc : Ch S w w') (h1 : ¬ S v) (h2 : ¬ S b) : VecIs w' v b M := h.block (hc.block v h.ltv h1) (hc.block b h.ltb h2)
theorem VecIs.cell (h : VecIs w v b M) : w.cell? ⟨v, 0, none⟩ = some (.map (some b)) := by rw [h.1.cell]; rfl
theorem VecIs.look (h : VecIs w v b M) {a : Ac} (ha : acOk a) : (Instr.lookup 144 (.map (some b)) (acV a) false).run Tryz.prog w = .ok (.int .i64 (mget M a)) w :=
  h.2.1.lookup actor_key Tryz.underlying144 Tryz.underlying3 (Tryz.zeroValue3 _) ha
end
/-- p points to a vector with the marks M, or is nil (M is empty then). -/
def VecAt (w : World) (p : Option Addr) (M : List Dt) : Prop := (p = none ∧ M = []) ∨ ∃ v b, p = some ⟨v, 0, none⟩ ∧ VecIs w v b M
theorem VecIs.at_ {w : World} {v b : Nat} {M : List Dt} (h : VecIs w v b M) : VecAt w (some ⟨v, 0, none⟩) M := .inr ⟨v, b, rfl, h⟩
theorem VecAt.nil (w : World) : VecAt w none [] := .inl ⟨rfl, rfl⟩
theorem VecAt.up {w w' : World} {p : Option Addr} {M : List Dt} (h : VecAt w p M) (hb : Below w.heap.size w w') : VecAt w' p M := by
  rcases h with h | ⟨v, b, rfl, h⟩
  · exact .inl h
  · exact .inr ⟨v, b, rfl, h.up hb⟩
theorem VecAt.vw {w : World} {p : Option Addr} {M : List Dt} (h : VecAt w p M) : Vw M := by
  rcases h with ⟨_, rfl⟩ | ⟨v, b, _, h⟩
  · exact Vw.nil
  · exact h.2.2
theorem vcright_any (a : Ac) (n : Int) (w : World) : Calls Tryz.prog 99 #[acV a, .int .i64 n] w fun e w' => e = .returned (.bool (rightD (a, n))) ∧ Below w.heap.size w w' := by
  obtain ⟨d, i⟩ := a
  have C1 := Lib.hid (fun w => right_any d i n w)
  have hr : dotB d i n = rightD ((d, i), n) := rfl
  generalize rightD ((d, i), n) = r at *
  rw [hr] at C1
  clear hr
  unfold dotV at C1
  unfold acV
  have hW := Whole.new w 48 #[.int .i64 d, .int .i64 i]
  have B0 := Lib.hid ((Below.refl w.heap.size w).alloc (Nat.le_refl _) (.cells #[.int .i64 d, .int .i64 i] 48))
  go_enter Tryz.func99, Tryz.ntmps99
  go_wp2_with fail
  refine (C1.out _).mono ?_; rintro e w1 ⟨rfl, b1⟩
  go_wp2
  go_ret
  exact ⟨rfl, B0.out.trans (below_of_le b1 (by simp))⟩
/-- A dot lies boxed in block N; beside it X holds. -/
def St3 (w : World) (N : Nat) (d i s : Int) (X : World → Prop) (W : World) : Prop :=
  Below N w W ∧ N + 1 ≤ W.heap.size ∧ W.cell? ⟨N, 0, none⟩ = some (.int .i64 d) ∧ W.cell? ⟨N, 1, none⟩ = some (.int .i64 i) ∧ W.cell? ⟨N, 2, none⟩ = some (.int .i64 s) ∧ X W
theorem St3.step {w : World} {N : Nat} {d i s : Int} {X : World → Prop} {W W' : World} (hX : ∀ W W', X W → Below W.heap.size W W' → X W') (h : St3 w N d i s X W) (b : Below W.heap.size W W') : St3 w N d i s X W' := by
  obtain ⟨h5, h3, h0, h1, h2, h4⟩ := h
  have hs := b.size
  refine ⟨h5.trans (below_of_le b (by omega)), by omega, ?_, ?_, ?_, hX _ _ h4 b⟩
  all_goals
    rw [b.cell (by simp only; omega)]
    assumption
theorem St3.new (w : World) (d i s : Int) (X : World → Prop) (hX : ∀ W W', X W → Below W.heap.size W W' → X W') (h : X w) (t : TypeId) : St3 w w.heap.size d i s X (w.alloc (.cells #[.int .i64 d, .int .i64 i, .int .i64 s] t)) := by
  have hW := Whole.new w t #[.int .i64 d, .int .i64 i, .int .i64 s]
  have B0 := (Below.refl w.heap.size w).alloc (Nat.le_refl _) (.cells #[.int .i64 d, .int .i64 i, .int .i64 s] t)
  refine ⟨B0, by simp, ?_, ?_, ?_, hX _ _ h B0⟩
  all_goals
    rw [hW.cell]
    rfl
/-- Has a vector a dot? -/
def vhasB (M : List Dt) (x : Dt) : Bool := rightD x && decide (x.2 ≤ mget M x.1)
end Go.Proofs.YtpakmeegldgjmaaGreat
/- Layer 17 (vector): Raise, Take. -/
namespace Go.Proofs.YtpakmeegldgjmaaGreat
open Go.RowKit
set_option linter.unusedVariables false
set_option maxRecDepth 100000
attribute [local go_sem ↓] Go.wp_at_zero Go.wp_at_succ

/-- An actor lies boxed in block N; beside it X holds. -/
def St2 (w : World) (N : Nat) (d i : Int) (X : World → Prop) (W : World) : Prop :=
  Below N w W ∧ N + 1 ≤ W.heap.size ∧ W.cell? ⟨N, 0, none⟩ = some (.int .i64 d) ∧ W.cell? ⟨N, 1, none⟩ = some (.int .i64 i) ∧ X W
theorem St2.step {w : World} {N : Nat} {d i : Int} {X : World → Prop} {W W' : World} (hX : ∀ W W', X W → Below W.heap.size W W' → X W') (h : St2 w N d i X W) (b : Below W.heap.size W W') : St2 w N d i X W' := by
  obtain ⟨h5, h3, h0, h1, h4⟩ := h
  have hs := b.size
  refine ⟨h5.trans (below_of_le b (by omega)), by omega, ?_, ?_, hX _ _ h4 b⟩
  all_goals
    rw [b.cell (by simp only; omega)]
    assumption
theorem St2.new (w : World) (d i : Int) (X : World → Prop) (hX : ∀ W W', X W → Below W.heap.size W W' → X W') (h : X w) (t : TypeId) : St2 w w.heap.size d i X (w.alloc (.cells #[.int .i64 d, .int .i64 i] t)) := by
  have hW := Whole.new w t #[.int .i64 d, .int .i64 i]
  have B0 := (Below.refl w.heap.size w).alloc (Nat.le_refl _) (.cells #[.int .i64 d, .int .i64 i] t)
  refine ⟨B0, by simp, ?_, ?_, hX _ _ h B0⟩
  all_goals
    rw [hW.cell]
    rfl
end Go.Proofs.YtpakmeegldgjmaaGreat
/- Layer 17 (vector): Raise where the mark may be, Take. -/
namespace Go.Proofs.YtpakmeegldgjmaaGreat
open Go.RowKit
set_option linter.unusedVariables false
set_option maxRecDepth 100000

end Go.Proofs.YtpakmeegldgjmaaGreat
/- Layer 17 (vector): Take. -/
namespace Go.Proofs.YtpakmeegldgjmaaGreat
open Go.RowKit
set_option linter.unusedVariables false
set_option maxRecDepth 100000
attribute [local go_sem ↓] Go.wp_at_zero Go.wp_at_succ

/-- Three whole numbers in block N. -/
def C3 (N : Nat) (d i s : Int) (W : World) : Prop := W.cell? ⟨N, 0, none⟩ = some (.int .i64 d) ∧ W.cell? ⟨N, 1, none⟩ = some (.int .i64 i) ∧ W.cell? ⟨N, 2, none⟩ = some (.int .i64 s)
theorem C3.blk {N : Nat} {d i s : Int} {W W' : World} (h : C3 N d i s W) (hb : W'.heap[N]? = W.heap[N]?) : C3 N d i s W' := by
  obtain ⟨h0, h1, h2⟩ := h
  refine ⟨?_, ?_, ?_⟩
  all_goals
    rw [World.cell?_of_block hb]
    assumption
theorem C3.up {N : Nat} {d i s : Int} {W W' : World} (h : C3 N d i s W) (hN : N < W.heap.size) (b : Below W.heap.size W W') : C3 N d i s W' := h.blk (b.block N hN)
theorem C3.new (w : World) (d i s : Int) (t : TypeId) : C3 w.heap.size d i s (w.alloc (.cells #[.int .i64 d, .int .i64 i, .int .i64 s] t)) := by
  have hW := Whole.new w t #[.int .i64 d, .int .i64 i, .int .i64 s]
  refine ⟨?_, ?_, ?_⟩
  all_goals
    rw [hW.cell]
    rfl
end Go.Proofs.YtpakmeegldgjmaaGreat
/- Merged: Y5, Y6, Y7. -/
/- Layer 17 (vector): actors, Marks. -/
namespace Go.Proofs.YtpakmeegldgjmaaGreat
open Go.RowKit
set_option linter.unusedVariables false
set_option maxRecDepth 100000
attribute [local go_sem ↓] Go.wp_at_zero Go.wp_at_succ

/-- 'append' as a step of a region that draws, its run known. -/
theorem step_append_run {P : Program} {ops : Array Oper} {o : Oper} {a : Act} {w : World} {K : Act → World → Prop} {Q : Exit → Act → World → Prop} {E : Prop} (hg : o.guard = none) (s x : Operand) (t tn : TypeId)
    (ho : o.op = .call { callee := .builtin .append, args := #[s, x], argTypes := #[t, tn] }) (vs vx : Value) (hs : a.eval s = vs) (hx : a.eval x = vx)
    (v' : Value) (w' : World) (hr : (Builtin.append_ #[t, tn] o.type #[vs, vx]).run P w = .ok v' w') (h : K (a.put o.dst v') w') : if Region.wanted o (yielded ops a.tmps) = true then Oper.wp P o a w K Q else E := by
  have hw : Region.wanted o (yielded ops a.tmps) = true := by simp [Region.wanted, hg]
  rw [if_pos hw]
  exact wp_append_runs w s x t tn ho vs vx hs hx v' w' hr h
/-- A slice that reads as a list of actors. -/
def Acs (w : World) (B : Nat) (A : Option Addr) (L : List Ac) : Prop := Rd w B 2 A L.length (L.flatMap acC)
theorem Acs.below {w w' : World} {B : Nat} {A : Option Addr} {L : List Ac} (h : Acs w B A L) (hb : Below B w w') : Acs w' B A L := Rd.below h hb
theorem acC_len (a : Ac) : (acC a).length = 2 := rfl
theorem acs_get {L : List Ac} {i : Nat} {x : Ac} (h : L[i]? = some x) : (L.flatMap acC)[i * 2]? = some (.int .i64 x.1) ∧ (L.flatMap acC)[i * 2 + 1]? = some (.int .i64 x.2) := by
  have e := flatMap_at acC 2 acC_len L
  rw [e, e, show i * 2 / 2 = i by omega, show (i * 2 + 1) / 2 = i by omega, show i * 2 % 2 = 0 by omega, show (i * 2 + 1) % 2 = 1 by omega, h]
  exact ⟨rfl, rfl⟩
theorem Acs.at_ {w : World} {B i : Nat} {A : Option Addr} {L : List Ac} {x : Ac} (h : Acs w B A L) (hx : L[i]? = some x) : ∃ b o, A = some ⟨b, o, none⟩ ∧ b < B ∧ w.cell? ⟨b, o + i * 2, none⟩ = some (.int .i64 x.1) ∧ w.cell? ⟨b, o + i * 2 + 1, none⟩ = some (.int .i64 x.2) := by
  have hi : i < L.length := (List.getElem?_eq_some_iff.1 hx).1
  obtain ⟨b, o, hA, hb, hc⟩ := h.2 (by omega)
  obtain ⟨e0, e1⟩ := acs_get hx
  exact ⟨b, o, hA, hb, hc _ _ e0, by rw [Nat.add_assoc]; exact hc _ _ e1⟩
theorem info_mk : (Tryz.prog.info? 111).map (fun i => (i.zero, i.size, i.bytes)) = some (some (.agg #[.int .i64 0, .int .i64 0, .int .i64 0]), 3, 24) := by kernel_rfl
/-- 'append' on marks, as a run. -/
theorem appM (w : World) (base : Nat) (A : Option Addr) (n c : Nat) (xs : List Value) (hown : Own w base 111 3 A n c xs) (B : Nat) (A' : Option Addr) (m c' : Nat) (news : List Value) (hr : Rd w B 3 A' m news) (h1 : ∀ u ∈ news, u.oneCell' = true) (hlen : n + m ≤ 4000000000) (hbase : base ≤ w.heap.size) :
    ∃ A2 c2 w', (Builtin.append_ #[27, 27] 27 #[.slice A n c, .slice A' m c']).run Tryz.prog w = .ok (.slice A2 (n + m) c2) w' ∧ Own w' base 111 3 A2 (n + m) c2 (xs ++ news) ∧ w.grownBy w' (bl A) ∧ Near w A A2 := by
  obtain ⟨i0, hi, hz0, hz1, hz2⟩ := info_parts info_mk
  exact run_append_rdn (P := Tryz.prog) w 27 27 base 111 i0 (.agg #[.int .i64 0, .int .i64 0, .int .i64 0]) 3 24 Tryz.underlying27 hi hz0 hz1 hz2 rfl (by decide) (by decide) A n c xs hown B A' m c' news hr h1 (by omega) hbase
theorem Own.bl_lo {w : World} {base size n c : Nat} {e : TypeId} {A : Option Addr} {xs : List Value} (h : Own w base e size A n c xs) : ∀ k, bl A = some k → base ≤ k := fun k hk => (h.block_lt k (by rw [ownBlock_bl]; exact hk)).1
/-- One mark appended, laid in a block of its own ahead of it. -/
theorem app1 (w : World) (base : Nat) (A : Option Addr) (n c : Nat) (L : List Dt) (hl : L.length = n) (hown : Own w base 111 3 A n c (dts L)) (x : Dt) (hlen : n ≤ 3000000000) (hbase : base ≤ w.heap.size) :
    ∃ A2 c2 w', (Builtin.append_ #[27, 27] 27 #[.slice A n c, .slice (some ⟨w.heap.size, 0, none⟩) 1 1]).run Tryz.prog (w.alloc (.cells #[.int .i64 x.1.1, .int .i64 x.1.2, .int .i64 x.2] 111)) = .ok (.slice A2 (n + 1) c2) w' ∧ Own w' base 111 3 A2 (n + 1) c2 (dts (L ++ [x])) ∧
      Ch (fun k => some k = bl A) w w' ∧ Below base w w' := by
  have hr : Rd (w.alloc (.cells #[.int .i64 x.1.1, .int .i64 x.1.2, .int .i64 x.2] 111)) (w.heap.size + 1) 3 (some ⟨w.heap.size, 0, none⟩) 1 (dtC x) :=
    ⟨rfl, fun _ => ⟨_, _, rfl, by omega, fun j u hu => by rw [(Whole.new w 111 #[.int .i64 x.1.1, .int .i64 x.1.2, .int .i64 x.2]).cell, Nat.zero_add, ← Array.getElem?_toList]; exact hu⟩⟩
  obtain ⟨A2, c2, w', q, o, g, _⟩ := appM (w.alloc (.cells #[.int .i64 x.1.1, .int .i64 x.1.2, .int .i64 x.2] 111)) base A n c (dts L) (hown.alloc _) (w.heap.size + 1) _ 1 1 (dtC x) hr (by intro u hu; simp [dtC] at hu; rcases hu with rfl | rfl | rfl <;> rfl) (by omega) (by simp; omega)
  refine ⟨A2, c2, w', q, ?_, ?_, ?_⟩
  · have e : dts (L ++ [x]) = dts L ++ dtC x := by simp [dts]
    rw [e]; exact o
  · exact (Ch.alloc_ _ w _).trans (grown_ch g) (fun k _ h => h)
  · exact ((Below.refl base w).alloc hbase _).grown g (by simp; omega) hown.bl_lo
/-- What a round reads: an actor in block P, and its number in the map in block b of the vector in block v. -/
def LkS (P v b : Nat) (d i s : Int) (W : World) : Prop := W.cell? ⟨P, 0, none⟩ = some (.int .i64 d) ∧ W.cell? ⟨P, 1, none⟩ = some (.int .i64 i) ∧ W.cell? ⟨v, 0, none⟩ = some (.map (some b)) ∧
  (Instr.lookup 144 (.map (some b)) (.agg #[.int .i64 d, .int .i64 i]) false).run Tryz.prog W = .ok (.int .i64 s) W
theorem LkS.mk_ {P v b : Nat} {d i s : Int} {W : World} {M : List Dt} (hW : Whole W P 48 #[.int .i64 d, .int .i64 i]) (hv : VecIs W v b M) (ok : acOk (d, i)) (hg : mget M (d, i) = s) : LkS P v b d i s W :=
  ⟨by rw [hW.cell]; rfl, by rw [hW.cell]; rfl, hv.cell, by have := hv.look ok; rw [hg] at this; exact this⟩
end Go.Proofs.YtpakmeegldgjmaaGreat
/- Layer 17 (vector): Join, Copy. -/
namespace Go.Proofs.YtpakmeegldgjmaaGreat
open Go.RowKit
set_option linter.unusedVariables false
set_option maxRecDepth 100000
attribute [local go_sem ↓] Go.wp_at_zero Go.wp_at_succ

theorem Acs.ch {S : Nat → Prop} {w w' : World} {B : Nat} {A : Option Addr} {L : List Ac} (r : Acs w B A L) (hB : B ≤ w.heap.size) (h : Ch S w w') (hS : ∀ k, k < B → bl A = some k → ¬ S k) : Acs w' B A L := Rd.ch r hB h hS
end Go.Proofs.YtpakmeegldgjmaaGreat
/- Layer 17 (vector): Meet, Covers, Sum. -/
namespace Go.Proofs.YtpakmeegldgjmaaGreat
open Go.RowKit
set_option linter.unusedVariables false
set_option maxRecDepth 100000
attribute [local go_sem ↓] Go.wp_at_zero Go.wp_at_succ

theorem VecAt.keep {w w' : World} {p : Option Addr} {M : List Dt} (h : VecAt w p M) (hb : Below w.heap.size w w') : VecAt w' p M := h.up hb
/-- Two whole numbers in block N. -/
def C2 (N : Nat) (d i : Int) (W : World) : Prop := W.cell? ⟨N, 0, none⟩ = some (.int .i64 d) ∧ W.cell? ⟨N, 1, none⟩ = some (.int .i64 i)
theorem C2.mk_ {P : Nat} {d i : Int} {W : World} {t : TypeId} (hW : Whole W P t #[.int .i64 d, .int .i64 i]) : C2 P d i W := ⟨by rw [hW.cell]; rfl, by rw [hW.cell]; rfl⟩
end Go.Proofs.YtpakmeegldgjmaaGreat
/- Merged: Y8, Y9, Y10. -/
/- Layer 17, the document's marks: Same, Get, Has, Set. -/
namespace Go.Proofs.YtpakmeegldgjmaaGreat
open Go.RowKit
set_option linter.unusedVariables false
set_option maxRecDepth 100000
attribute [local go_sem ↓] Go.wp_at_zero Go.wp_at_succ

theorem four3 (x1 x2 x3 d1 d2 d3 : Int) : (x1 = d1 ∧ x2 = d2 ∧ x3 = d3) ∨ (x1 ≠ d1 ∨ (x1 = d1 ∧ x2 ≠ d2) ∨ (x1 = d1 ∧ x2 = d2 ∧ x3 ≠ d3)) := by omega
theorem rsame17_any (w : World) (B B' : Nat) (A A' : Option Addr) (c c' : Nat) (L M : List Dt) (hr : Ds w B A L) (hr' : Ds w B' A' M) (hB : B ≤ w.heap.size) (hB' : B' ≤ w.heap.size) (hn : L.length ≤ 9223372036854775807) :
    Calls Tryz.prog 40 #[.slice A L.length c, .slice A' M.length c'] w fun e w' => e = .returned (.bool (decide (L = M))) ∧ Below w.heap.size w w' := by
  by_cases hne : L.length = M.length
  · have HL2 := Lib.hid hne
    rw [← hne]
    generalize hlen : L.length = n at *
    have HL := Lib.hid hlen
    have HR := Lib.hid (And.intro hr hr')
    clear hlen hr hr' hne
    generalize hN : w.heap.size = N at *
    have B0 := Lib.hid (Below.refl N w)
    go_enter Tryz.func40, Tryz.ntmps40
    go_wp2_with fail
    go_loopw [5] (fun i wr => ∃ j : Nat, j ≤ n ∧ i = .int .i64 j ∧ L.take j = M.take j ∧ Below N w wr) (fun i _ => n - (intOf i).toNat)
    case atStart => exact ⟨0, by omega, rfl, by simp, B0.out⟩
    case round =>
      obtain ⟨j, hj, rfl, hno, hb⟩ := hrel
      have HNO := Lib.hid hno
      clear hno B0
      by_cases hlt : j < n
      · obtain ⟨x, hx⟩ : ∃ x, L[j]? = some x := ⟨L[j]'(by have := HL.out; omega), List.getElem?_eq_getElem _⟩
        obtain ⟨y, hy⟩ : ∃ y, M[j]? = some y := ⟨M[j]'(by have := HL2.out; omega), List.getElem?_eq_getElem _⟩
        obtain ⟨b0, o0, hA, hb0, c0, c1, c2⟩ := (HR.out.1.below (hb.mono hB)).at_ hx
        obtain ⟨b1, o1, hA', hb1, e0, e1, e2⟩ := (HR.out.2.below (hb.mono hB')).at_ hy
        have HX := Lib.hid (And.intro hx hy)
        have HB := Lib.hid hb
        clear hx hy hb
        obtain ⟨⟨x1, x2⟩, x3⟩ := x
        obtain ⟨⟨y1, y2⟩, y3⟩ := y
        simp only at c0 c1 c2 e0 e1 e2
        subst hA hA'
        rcases four3 x1 x2 x3 y1 y2 y3 with ⟨rfl, rfl, rfl⟩ | he
        · have hno2 := Lib.hid (show L.take (j + 1) = M.take (j + 1) by
            rw [List.take_add_one, List.take_add_one, HX.out.1, HX.out.2, HNO.out])
          go_wp2_with fail
          go_region
          go_wp2
          go_roundw
          case rel => exact ⟨j + 1, by omega, by go_num, hno2.out, HB.out.drew⟩
          case measure => simp [intOf]; omega
        · have hin := Lib.hid (show decide (L = M) = false from decide_eq_false fun h => by
            subst h
            have := HX.out.1.symm.trans HX.out.2
            simp at this
            rcases he with he | ⟨_, he⟩ | ⟨_, _, he⟩
            · exact he this.1.1
            · exact he this.1.2
            · exact he this.2)
          rcases he with h1 | ⟨h1, h2⟩ | ⟨h1, h2, h3⟩
          all_goals
            go_wp2_with fail
            go_region
            go_wp2
            go_ret
            exact ⟨ret_bool hin.out.symm, HB.out.drew⟩
      · have hj' : j = n := by omega
        subst hj'
        have hin := Lib.hid (show decide (L = M) = true from decide_eq_true (by
          have := HNO.out
          rwa [List.take_of_length_le (by have := HL.out; omega), List.take_of_length_le (by have := HL2.out; omega)] at this))
        have HB := Lib.hid hb
        clear hb
        go_wp2
        go_ret
        exact ⟨ret_bool hin.out.symm, HB.out⟩
  · have hin : decide (L = M) = false := decide_eq_false fun h => hne (by rw [h])
    rw [hin]
    have B0 := Lib.hid (Below.refl w.heap.size w)
    have h1 : ((L.length : Int) == (M.length : Int)) = false := by simp; omega
    clear hr hr' hin
    generalize L.length = n at *
    generalize M.length = m at *
    go_enter Tryz.func40, Tryz.ntmps40
    go_wp2
    go_ret
    exact ⟨rfl, B0.out⟩
end Go.Proofs.YtpakmeegldgjmaaGreat
/- Layer 17, the document's marks: Set. -/
namespace Go.Proofs.YtpakmeegldgjmaaGreat
open Go.RowKit
set_option linter.unusedVariables false
set_option maxRecDepth 100000
attribute [local go_sem ↓] Go.wp_at_zero Go.wp_at_succ

/-- What the loop has. -/
def SetI (w wr : World) (N : Nat) (d1 d2 : Int) (A3 : Option Addr) (c3 : Nat) (S : List Dt) : Prop :=
  Own wr (N + 1) 111 3 A3 S.length c3 (dts S) ∧ Whole wr N 48 #[.int .i64 d1, .int .i64 d2] ∧ Below N w wr
theorem SetI.up {w wr w' : World} {N : Nat} {d1 d2 : Int} {A3 : Option Addr} {c3 : Nat} {S : List Dt} (h : SetI w wr N d1 d2 A3 c3 S) (b : Below wr.heap.size wr w') : SetI w w' N d1 d2 A3 c3 S :=
  ⟨h.1.below b (Nat.le_refl _), h.2.1.below b h.2.1.lt, h.2.2.trans (below_of_le b (Nat.le_of_lt h.2.1.lt))⟩
theorem SetI.app {w wr : World} {N : Nat} {d1 d2 : Int} {A3 : Option Addr} {c3 : Nat} {S : List Dt} (h : SetI w wr N d1 d2 A3 c3 S) (x : Dt) (hl : S.length ≤ 3000000000) :
    ∃ A2 c2 w', (Builtin.append_ #[27, 27] 27 #[.slice A3 S.length c3, .slice (some ⟨wr.heap.size, 0, none⟩) 1 1]).run Tryz.prog (wr.alloc (.cells #[.int .i64 x.1.1, .int .i64 x.1.2, .int .i64 x.2] 111)) = .ok (.slice A2 (S.length + 1) c2) w' ∧ SetI w w' N d1 d2 A2 c2 (S ++ [x]) := by
  have hlt := h.2.1.lt
  obtain ⟨A2, c2, w', q, o, ch, b⟩ := app1 wr (N + 1) A3 S.length c3 S rfl h.1 x hl (by omega)
  refine ⟨A2, c2, w', q, by simpa using o, h.2.1.ch ch (fun e => ?_), h.2.2.trans (below_of_le b (by omega))⟩
  have := h.1.bl_lo N e.symm
  omega
end Go.Proofs.YtpakmeegldgjmaaGreat
/- Layer 17, the document's marks: Has, Raise, Take, Join, Meet, Covers. -/
namespace Go.Proofs.YtpakmeegldgjmaaGreat
open Go.RowKit
set_option linter.unusedVariables false
set_option maxRecDepth 100000
attribute [local go_sem ↓] Go.wp_at_zero Go.wp_at_succ

/-- A slice of marks, whosever. -/
def MsAt (w : World) (A : Option Addr) (L : List Dt) : Prop := Ds w w.heap.size A L
theorem MsAt.up {w w' : World} {A : Option Addr} {L : List Dt} (h : MsAt w A L) (b : Below w.heap.size w w') : MsAt w' A L := (Ds.below h b).more b.size
theorem MsAt.of {w : World} {B : Nat} {A : Option Addr} {L : List Dt} (h : Ds w B A L) (hB : B ≤ w.heap.size) : MsAt w A L := h.more hB
theorem MsAt.own {w : World} {base c : Nat} {e : TypeId} {A : Option Addr} {L : List Dt} (h : Own w base e 3 A L.length c (dts L)) : MsAt w A L := h.ds
end Go.Proofs.YtpakmeegldgjmaaGreat
/- Merged: Y11, Y12, Y13. -/
/- Layer 17, the document's marks: Take, Join, Meet, Covers. -/
namespace Go.Proofs.YtpakmeegldgjmaaGreat
open Go.RowKit
set_option linter.unusedVariables false
set_option maxRecDepth 100000
attribute [local go_sem ↓] Go.wp_at_zero Go.wp_at_succ

end Go.Proofs.YtpakmeegldgjmaaGreat
/- Layer 17, the document's marks: Meet, Covers. -/
namespace Go.Proofs.YtpakmeegldgjmaaGreat
open Go.RowKit
set_option linter.unusedVariables false
set_option maxRecDepth 100000
attribute [local go_sem ↓] Go.wp_at_zero Go.wp_at_succ

end Go.Proofs.YtpakmeegldgjmaaGreat
/- Layer 17 (vector): awake, made. -/
namespace Go.Proofs.YtpakmeegldgjmaaGreat
open Go.RowKit
set_option linter.unusedVariables false
set_option maxRecDepth 100000
attribute [local go_sem ↓] Go.wp_at_zero Go.wp_at_succ

theorem MsAt.ch {S : Nat → Prop} {w w' : World} {A : Option Addr} {L : List Dt} (h : MsAt w A L) (hc : Ch S w w') (hS : ∀ k, bl A = some k → ¬ S k) : MsAt w' A L :=
  Ds.more (show Ds w' w.heap.size A L from Rd.ch h (Nat.le_refl _) hc (fun k _ hk => hS k hk)) hc.size
end Go.Proofs.YtpakmeegldgjmaaGreat
/- Merged: Y18, Y19, Y20. -/
/- Layer 17 (vector): Check, and the document's. -/
namespace Go.Proofs.YtpakmeegldgjmaaGreat
open Go.RowKit
set_option linter.unusedVariables false
set_option maxRecDepth 100000
attribute [local go_sem ↓] Go.wp_at_zero Go.wp_at_succ

/-- Is an actor not ahead of the next one? -/
def badP : Option Ac → Ac → Bool
  | none, _ => false
  | some q, a => !aLt q a
/-- Why marks may not be; 0 where they may. -/
def chkG : Option Ac → List Dt → Int
  | _, [] => 0
  | p, x :: r => if rightD x = false then 4 else if badP p x.1 = true then 6 else chkG (some x.1) r
theorem chkG_cons (p : Option Ac) (x : Dt) (r : List Dt) : chkG p (x :: r) = if rightD x = false then 4 else if badP p x.1 = true then 6 else chkG (some x.1) r := by
  cases p <;> rfl
def chkE (L : List Dt) : Int := if 4096 < L.length then 3 else chkG none L
theorem chkG_vw {p : Option Ac} {L : List Dt} (h : chkG p L = 0) : (∀ x ∈ L, rightD x = true) ∧ Srt L ∧ ∀ a, p = some a → ∀ x ∈ L, aLt a x.1 = true := by
  induction L generalizing p with
  | nil => exact ⟨by simp, List.Pairwise.nil, by simp⟩
  | cons x r ih =>
    rw [chkG_cons] at h
    by_cases h1 : rightD x = false
    · rw [if_pos h1] at h; cases h
    · rw [if_neg h1] at h
      by_cases h2 : badP p x.1 = true
      · rw [if_pos h2] at h; cases h
      · rw [if_neg h2] at h
        obtain ⟨i1, i2, i3⟩ := ih h
        refine ⟨?_, List.pairwise_cons.2 ⟨fun y hy => i3 x.1 rfl y hy, i2⟩, ?_⟩
        · intro y hy
          rcases List.mem_cons.1 hy with rfl | hy
          · simpa using h1
          · exact i1 y hy
        · intro a ha y hy
          cases ha
          have h3 : aLt a x.1 = true := by simpa [badP] using h2
          rcases List.mem_cons.1 hy with rfl | hy
          · exact h3
          · exact aLt_trans h3 (i3 x.1 rfl y hy)
theorem chkE_vw {L : List Dt} (h : chkE L = 0) : Vw L ∧ L.length ≤ 4096 := by
  unfold chkE at h
  split at h
  · cases h
  · exact ⟨⟨(chkG_vw h).2.1, (chkG_vw h).1⟩, by omega⟩
theorem chkG_of {p : Option Ac} {L : List Dt} (h1 : ∀ x ∈ L, rightD x = true) (h2 : Srt L) (h3 : ∀ a, p = some a → ∀ x ∈ L, aLt a x.1 = true) : chkG p L = 0 := by
  induction L generalizing p with
  | nil => cases p <;> rfl
  | cons x r ih =>
    have hs := List.pairwise_cons.1 h2
    have e2 : badP p x.1 = false := by
      cases p with
      | none => rfl
      | some a => simp only [badP, h3 a rfl x (List.mem_cons_self ..), Bool.not_true]
    rw [chkG_cons, h1 x (List.mem_cons_self ..), e2, if_neg (by simp), if_neg (by simp)]
    exact ih (fun y hy => h1 y (List.mem_cons_of_mem _ hy)) hs.2 (fun a ha y hy => by cases ha; exact hs.1 y hy)
theorem Vw.chk {L : List Dt} (h : Vw L) (hl : L.length ≤ 4096) : chkE L = 0 := by
  unfold chkE
  rw [if_neg (by omega)]
  exact chkG_of h.2 h.1 (by simp)
def prevA (L : List Dt) (j : Nat) : Option Ac := if j = 0 then none else (L[j - 1]?).map (·.1)
theorem chk_step {L : List Dt} {j : Nat} {x : Dt} (hx : L[j]? = some x) : chkG (prevA L j) (L.drop j) = (if rightD x = false then 4 else if badP (prevA L j) x.1 = true then 6 else chkG (prevA L (j + 1)) (L.drop (j + 1))) := by
  obtain ⟨hi, he⟩ := List.getElem?_eq_some_iff.1 hx
  rw [List.drop_eq_getElem_cons hi, he]
  have : prevA L (j + 1) = some x.1 := by
    unfold prevA
    rw [if_neg (by omega), Nat.add_sub_cancel, hx]
    rfl
  rw [this, chkG_cons]
theorem cmp_aLt (a b : Ac) : decide (0 ≤ orI (cmpI a.1 b.1) (cmpI a.2 b.2)) = !aLt a b := by
  rw [Bool.eq_iff_iff]
  simp only [decide_eq_true_eq, Bool.not_eq_true', aLt, decide_eq_false_iff_not]
  unfold orI cmpI
  repeat' split
  all_goals omega
theorem prevA_of {L : List Dt} {j : Nat} {y : Dt} (hj : 0 < j) (hy : L[j - 1]? = some y) : prevA L j = some y.1 := by
  unfold prevA
  rw [if_neg (by omega), hy]
  rfl
set_option maxHeartbeats 2000000 in
theorem rcheck17_any (w : World) (A : Option Addr) (c : Nat) (L : List Dt) (hr : MsAt w A L) (hn : L.length ≤ 9223372036854775807) :
    Calls Tryz.prog 25 #[.slice A L.length c] w fun e w' => e = .returned (.int .i64 (chkE L)) ∧ Below w.heap.size w w' := by
  have CR := Lib.hid (fun d i s w => rright_any d i s w)
  have CA := Lib.hid (fun d i d' i' w => rahead_any d i d' i' w)
  have HR := Lib.hid hr
  by_cases hlong : 4096 < L.length
  · have hE : chkE L = 3 := by unfold chkE; rw [if_pos hlong]
    rw [hE]
    have B0 := Lib.hid (Below.refl w.heap.size w)
    clear hr hE
    generalize L.length = n at *
    go_enter Tryz.func25, Tryz.ntmps25
    go_wp2
    go_ret
    exact ⟨rfl, B0.out⟩
  · have hE : chkE L = chkG none L := by unfold chkE; rw [if_neg hlong]
    rw [hE]
    generalize hlen : L.length = n at *
    have HL := Lib.hid hlen
    have B0 := Lib.hid (Below.refl w.heap.size w)
    generalize hN : w.heap.size = N at *
    unfold dotV at CR
    unfold actV at CA
    have hn4 : n ≤ 4096 := by omega
    clear hr hE hlen hlong
    go_enter Tryz.func25, Tryz.ntmps25
    go_wp2_with fail
    go_loopw [3] (fun i wr => ∃ (j : Nat), j ≤ n ∧ i = .int .i64 j ∧ chkG none L = chkG (prevA L j) (L.drop j) ∧ Below N w wr) (fun i _ => n - (intOf i).toNat)
    case atStart => exact ⟨0, by omega, rfl, rfl, B0.out⟩
    case round =>
      obtain ⟨j, hj, rfl, hchk, hb⟩ := hrel
      have HM := Lib.hid (And.intro hchk hb)
      clear hchk hb B0
      by_cases hlt : j < n
      · obtain ⟨x, hx⟩ : ∃ x, L[j]? = some x := ⟨L[j]'(by have := HL.out; omega), List.getElem?_eq_getElem _⟩
        obtain ⟨b0, o0, hA, hb0, k0, k1, k2⟩ := (Ds.below (hN ▸ HR.out : Ds w N A L) HM.out.2).at_ hx
        have hst := Lib.hid (HM.out.1.trans (chk_step hx))
        have hNr : N ≤ wr.heap.size := by have := HM.out.2.size; omega
        have HX := Lib.hid hx
        obtain ⟨⟨d, i⟩, s⟩ := x
        have hrd : dotB d i s = rightD ((d, i), s) := rfl
        have CX := Lib.hid (fun w => CR.out d i s w)
        rw [hrd] at CX
        have HK := Lib.hid (And.intro k0 (And.intro k1 k2))
        clear hx k0 k1 k2 hrd
        subst hA
        cases hr : rightD ((d, i), s)
        · rw [hr] at CX
          have hE := Lib.hid (show chkG none L = 4 by rw [hst.out, hr]; rfl)
          clear hr
          go_wp2_with fail
          refine wp_region_held_drew (S := (fun W => W.cell? ⟨b0, o0 + j * 3, none⟩ = some (.int .i64 d) ∧ W.cell? ⟨b0, o0 + j * 3 + 1, none⟩ = some (.int .i64 i) ∧ W.cell? ⟨b0, o0 + j * 3 + 2, none⟩ = some (.int .i64 s))) (by kernel_rfl) ?_ (fun hHeld => ?_)
          · (try dsimp only); exact HK.out
          refine wpAnyH_take (i := 0) (v := ?_) rfl (by kernel_rfl) (by kernel_rfl) (by kernel_rfl) (fun _ _ _ h => h) (Or.inl ⟨by rfl, ?_⟩) (by assumption) ?_
          rotate_left
          first | (focus ((intro w hSw; (try dsimp only at hSw); go_simp); (try with_reducible rfl); done)) | fail
          try simp only [Act.put, List.getElem_toArray, List.getElem_cons_zero, List.setIfInBounds_toArray, List.set_cons_zero, List.set_cons_succ]
          refine wpAnyH_take (i := 1) (v := ?_) rfl (by kernel_rfl) (by kernel_rfl) (by kernel_rfl) (fun _ _ _ h => h) (Or.inl ⟨by rfl, ?_⟩) (by assumption) ?_
          rotate_left
          first | (focus ((intro w hSw; (try dsimp only at hSw); go_simp); (try with_reducible rfl); done)) | fail
          try simp only [Act.put, List.getElem_toArray, List.getElem_cons_zero, List.getElem_cons_succ, List.setIfInBounds_toArray, List.set_cons_zero, List.set_cons_succ]
          refine wpAnyH_take (i := 2) (v := ?_) rfl (by kernel_rfl) (by kernel_rfl) (by kernel_rfl) (fun _ _ _ h => h) (Or.inl ⟨by rfl, ?_⟩) (by assumption) ?_
          rotate_left
          first | (focus ((intro w hSw; (try dsimp only at hSw); go_simp); (try with_reducible rfl); done)) | fail
          try simp only [Act.put, List.getElem_toArray, List.getElem_cons_zero, List.getElem_cons_succ, List.setIfInBounds_toArray, List.set_cons_zero, List.set_cons_succ]
          refine wpAnyH_take (i := 3) (v := ?_) rfl (by kernel_rfl) (by kernel_rfl) (by kernel_rfl) (fun _ _ _ h => h) (Or.inl ⟨by rfl, ?_⟩) (by assumption) ?_
          rotate_left
          first | (focus ((intro w hSw; (try dsimp only at hSw); go_simp); (try with_reducible rfl); done)) | fail
          try simp only [Act.put, List.getElem_toArray, List.getElem_cons_zero, List.getElem_cons_succ, List.setIfInBounds_toArray, List.set_cons_zero, List.set_cons_succ]
          refine wpAnyH_take (i := 4) (v := ?_) rfl (by kernel_rfl) (by kernel_rfl) (by kernel_rfl) (fun _ _ _ h => h) (Or.inl ⟨by rfl, ?_⟩) (by assumption) ?_
          rotate_left
          first | (focus ((intro w hSw; (try dsimp only at hSw); go_simp); (try with_reducible rfl); done)) | fail
          try simp only [Act.put, List.getElem_toArray, List.getElem_cons_zero, List.getElem_cons_succ, List.setIfInBounds_toArray, List.set_cons_zero, List.set_cons_succ]
          refine wpAnyH_take (i := 5) (v := ?_) rfl (by kernel_rfl) (by kernel_rfl) (by kernel_rfl) (fun _ _ _ h => h) (Or.inl ⟨by rfl, ?_⟩) (by assumption) ?_
          rotate_left
          first | (focus ((intro w hSw; (try dsimp only at hSw); go_simp); (try with_reducible rfl); done)) | fail
          try simp only [Act.put, List.getElem_toArray, List.getElem_cons_zero, List.getElem_cons_succ, List.setIfInBounds_toArray, List.set_cons_zero, List.set_cons_succ]
          refine wpAnyH_take (i := 6) (v := ?_) rfl (by kernel_rfl) (by kernel_rfl) (by kernel_rfl) (fun _ _ _ h => h) (Or.inl ⟨by rfl, ?_⟩) (by assumption) ?_
          rotate_left
          first | (focus ((intro w hSw; (try dsimp only at hSw); go_simp); (try with_reducible rfl); done)) | fail
          try simp only [Act.put, List.getElem_toArray, List.getElem_cons_zero, List.getElem_cons_succ, List.setIfInBounds_toArray, List.set_cons_zero, List.set_cons_succ]
          refine wpAnyH_take (i := 7) (v := ?_) rfl (by kernel_rfl) (by kernel_rfl) (by kernel_rfl) (fun _ _ _ h => h) (Or.inl ⟨by rfl, ?_⟩) (by assumption) ?_
          rotate_left
          first | (focus ((intro w hSw; (try dsimp only at hSw); go_simp); (try with_reducible rfl); done)) | fail
          try simp only [Act.put, List.getElem_toArray, List.getElem_cons_zero, List.getElem_cons_succ, List.setIfInBounds_toArray, List.set_cons_zero, List.set_cons_succ]
          refine wpAnyH_take (i := 8) (v := ?_) rfl (by kernel_rfl) (by kernel_rfl) (by kernel_rfl) (fun _ _ _ h => h) (Or.inl ⟨by rfl, ?_⟩) (by assumption) ?_
          rotate_left
          first | (focus ((intro w hSw; (try dsimp only at hSw); go_simp); (try with_reducible rfl); done)) | fail
          try simp only [Act.put, List.getElem_toArray, List.getElem_cons_zero, List.getElem_cons_succ, List.setIfInBounds_toArray, List.set_cons_zero, List.set_cons_succ]
          refine wpAnyH_take (i := 9) (v := ?_) rfl (by kernel_rfl) (by kernel_rfl) (by kernel_rfl) (fun _ _ _ h => h) (Or.inl ⟨by rfl, ?_⟩) (by assumption) ?_
          rotate_left
          first | (focus ((intro w hSw; (try dsimp only at hSw); go_simp); (try with_reducible rfl); done)) | fail
          try simp only [Act.put, List.getElem_toArray, List.getElem_cons_zero, List.getElem_cons_succ, List.setIfInBounds_toArray, List.set_cons_zero, List.set_cons_succ]
          refine wpAnyH_take (i := 10) (v := ?_) rfl (by kernel_rfl) (by kernel_rfl) (by kernel_rfl) (fun _ _ _ h => h) (Or.inl ⟨by rfl, ?_⟩) (by assumption) ?_
          rotate_left
          first | (focus ((intro w hSw; (try dsimp only at hSw); go_simp); (try with_reducible rfl); done)) | fail
          try simp only [Act.put, List.getElem_toArray, List.getElem_cons_zero, List.getElem_cons_succ, List.setIfInBounds_toArray, List.set_cons_zero, List.set_cons_succ]
          refine wpAnyH_ready (rs := [11]) (by kernel_rfl) (by simp) ?_
          refine AllReadyH.cons rfl (fun K hK => ?_) AllReadyH.nil
          go_simp
          refine (CX.out _).mono ?_; rintro e w5 ⟨rfl, b5⟩
          go_wp2_with fail
          refine hK.out _ _ ?_ (fun hHeld => ?_)
          · (try dsimp only); exact ⟨(b5.cell (by show b0 < wr.heap.size; omega)).trans hHeld.1, (b5.cell (by show b0 < wr.heap.size; omega)).trans hHeld.2.1, (b5.cell (by show b0 < wr.heap.size; omega)).trans hHeld.2.2⟩
          clear hK K
          try simp only [Act.put, List.getElem_toArray, List.getElem_cons_zero, List.getElem_cons_succ, List.setIfInBounds_toArray, List.set_cons_zero, List.set_cons_succ]
          refine wpAnyH_take (i := 12) (v := ?_) rfl (by kernel_rfl) (by kernel_rfl) (by kernel_rfl) (fun _ _ _ h => h) (Or.inl ⟨by rfl, ?_⟩) (by assumption) ?_
          rotate_left
          first | (focus ((intro w hSw; (try dsimp only at hSw); go_simp); (try with_reducible rfl); done)) | fail
          try simp only [Act.put, List.getElem_toArray, List.getElem_cons_zero, List.getElem_cons_succ, List.setIfInBounds_toArray, List.set_cons_zero, List.set_cons_succ]
          refine wpAnyH_done (by kernel_rfl) ?_ _
          have HB := Lib.hid (HM.out.2.drew.trans (below_of_le b5 (show N ≤ wr.heap.size by omega)))
          clear b5
          go_wp2
          go_ret
          exact ⟨ret_int hE.out.symm, HB.out⟩
        · rw [hr] at CX
          have hst2 := Lib.hid (show chkG none L = if badP (prevA L j) (d, i) = true then 6 else chkG (prevA L (j + 1)) (L.drop (j + 1)) by rw [hst.out, hr]; rfl)
          clear hr
          go_wp2_with fail
          refine wp_region_held_drew (S := (fun W => W.cell? ⟨b0, o0 + j * 3, none⟩ = some (.int .i64 d) ∧ W.cell? ⟨b0, o0 + j * 3 + 1, none⟩ = some (.int .i64 i) ∧ W.cell? ⟨b0, o0 + j * 3 + 2, none⟩ = some (.int .i64 s))) (by kernel_rfl) ?_ (fun hHeld => ?_)
          · (try dsimp only); exact HK.out
          refine wpAnyH_take (i := 0) (v := ?_) rfl (by kernel_rfl) (by kernel_rfl) (by kernel_rfl) (fun _ _ _ h => h) (Or.inl ⟨by rfl, ?_⟩) (by assumption) ?_
          rotate_left
          first | (focus ((intro w hSw; (try dsimp only at hSw); go_simp); (try with_reducible rfl); done)) | fail
          try simp only [Act.put, List.getElem_toArray, List.getElem_cons_zero, List.setIfInBounds_toArray, List.set_cons_zero, List.set_cons_succ]
          refine wpAnyH_take (i := 1) (v := ?_) rfl (by kernel_rfl) (by kernel_rfl) (by kernel_rfl) (fun _ _ _ h => h) (Or.inl ⟨by rfl, ?_⟩) (by assumption) ?_
          rotate_left
          first | (focus ((intro w hSw; (try dsimp only at hSw); go_simp); (try with_reducible rfl); done)) | fail
          try simp only [Act.put, List.getElem_toArray, List.getElem_cons_zero, List.getElem_cons_succ, List.setIfInBounds_toArray, List.set_cons_zero, List.set_cons_succ]
          refine wpAnyH_take (i := 2) (v := ?_) rfl (by kernel_rfl) (by kernel_rfl) (by kernel_rfl) (fun _ _ _ h => h) (Or.inl ⟨by rfl, ?_⟩) (by assumption) ?_
          rotate_left
          first | (focus ((intro w hSw; (try dsimp only at hSw); go_simp); (try with_reducible rfl); done)) | fail
          try simp only [Act.put, List.getElem_toArray, List.getElem_cons_zero, List.getElem_cons_succ, List.setIfInBounds_toArray, List.set_cons_zero, List.set_cons_succ]
          refine wpAnyH_take (i := 3) (v := ?_) rfl (by kernel_rfl) (by kernel_rfl) (by kernel_rfl) (fun _ _ _ h => h) (Or.inl ⟨by rfl, ?_⟩) (by assumption) ?_
          rotate_left
          first | (focus ((intro w hSw; (try dsimp only at hSw); go_simp); (try with_reducible rfl); done)) | fail
          try simp only [Act.put, List.getElem_toArray, List.getElem_cons_zero, List.getElem_cons_succ, List.setIfInBounds_toArray, List.set_cons_zero, List.set_cons_succ]
          refine wpAnyH_take (i := 4) (v := ?_) rfl (by kernel_rfl) (by kernel_rfl) (by kernel_rfl) (fun _ _ _ h => h) (Or.inl ⟨by rfl, ?_⟩) (by assumption) ?_
          rotate_left
          first | (focus ((intro w hSw; (try dsimp only at hSw); go_simp); (try with_reducible rfl); done)) | fail
          try simp only [Act.put, List.getElem_toArray, List.getElem_cons_zero, List.getElem_cons_succ, List.setIfInBounds_toArray, List.set_cons_zero, List.set_cons_succ]
          refine wpAnyH_take (i := 5) (v := ?_) rfl (by kernel_rfl) (by kernel_rfl) (by kernel_rfl) (fun _ _ _ h => h) (Or.inl ⟨by rfl, ?_⟩) (by assumption) ?_
          rotate_left
          first | (focus ((intro w hSw; (try dsimp only at hSw); go_simp); (try with_reducible rfl); done)) | fail
          try simp only [Act.put, List.getElem_toArray, List.getElem_cons_zero, List.getElem_cons_succ, List.setIfInBounds_toArray, List.set_cons_zero, List.set_cons_succ]
          refine wpAnyH_take (i := 6) (v := ?_) rfl (by kernel_rfl) (by kernel_rfl) (by kernel_rfl) (fun _ _ _ h => h) (Or.inl ⟨by rfl, ?_⟩) (by assumption) ?_
          rotate_left
          first | (focus ((intro w hSw; (try dsimp only at hSw); go_simp); (try with_reducible rfl); done)) | fail
          try simp only [Act.put, List.getElem_toArray, List.getElem_cons_zero, List.getElem_cons_succ, List.setIfInBounds_toArray, List.set_cons_zero, List.set_cons_succ]
          refine wpAnyH_take (i := 7) (v := ?_) rfl (by kernel_rfl) (by kernel_rfl) (by kernel_rfl) (fun _ _ _ h => h) (Or.inl ⟨by rfl, ?_⟩) (by assumption) ?_
          rotate_left
          first | (focus ((intro w hSw; (try dsimp only at hSw); go_simp); (try with_reducible rfl); done)) | fail
          try simp only [Act.put, List.getElem_toArray, List.getElem_cons_zero, List.getElem_cons_succ, List.setIfInBounds_toArray, List.set_cons_zero, List.set_cons_succ]
          refine wpAnyH_take (i := 8) (v := ?_) rfl (by kernel_rfl) (by kernel_rfl) (by kernel_rfl) (fun _ _ _ h => h) (Or.inl ⟨by rfl, ?_⟩) (by assumption) ?_
          rotate_left
          first | (focus ((intro w hSw; (try dsimp only at hSw); go_simp); (try with_reducible rfl); done)) | fail
          try simp only [Act.put, List.getElem_toArray, List.getElem_cons_zero, List.getElem_cons_succ, List.setIfInBounds_toArray, List.set_cons_zero, List.set_cons_succ]
          refine wpAnyH_take (i := 9) (v := ?_) rfl (by kernel_rfl) (by kernel_rfl) (by kernel_rfl) (fun _ _ _ h => h) (Or.inl ⟨by rfl, ?_⟩) (by assumption) ?_
          rotate_left
          first | (focus ((intro w hSw; (try dsimp only at hSw); go_simp); (try with_reducible rfl); done)) | fail
          try simp only [Act.put, List.getElem_toArray, List.getElem_cons_zero, List.getElem_cons_succ, List.setIfInBounds_toArray, List.set_cons_zero, List.set_cons_succ]
          refine wpAnyH_take (i := 10) (v := ?_) rfl (by kernel_rfl) (by kernel_rfl) (by kernel_rfl) (fun _ _ _ h => h) (Or.inl ⟨by rfl, ?_⟩) (by assumption) ?_
          rotate_left
          first | (focus ((intro w hSw; (try dsimp only at hSw); go_simp); (try with_reducible rfl); done)) | fail
          try simp only [Act.put, List.getElem_toArray, List.getElem_cons_zero, List.getElem_cons_succ, List.setIfInBounds_toArray, List.set_cons_zero, List.set_cons_succ]
          refine wpAnyH_ready (rs := [11]) (by kernel_rfl) (by simp) ?_
          refine AllReadyH.cons rfl (fun K hK => ?_) AllReadyH.nil
          go_simp
          refine (CX.out _).mono ?_; rintro e w5 ⟨rfl, b5⟩
          go_wp2_with fail
          refine hK.out _ _ ?_ (fun hHeld => ?_)
          · (try dsimp only); exact ⟨(b5.cell (by show b0 < wr.heap.size; omega)).trans hHeld.1, (b5.cell (by show b0 < wr.heap.size; omega)).trans hHeld.2.1, (b5.cell (by show b0 < wr.heap.size; omega)).trans hHeld.2.2⟩
          clear hK K
          try simp only [Act.put, List.getElem_toArray, List.getElem_cons_zero, List.getElem_cons_succ, List.setIfInBounds_toArray, List.set_cons_zero, List.set_cons_succ]
          refine wpAnyH_take (i := 12) (v := ?_) rfl (by kernel_rfl) (by kernel_rfl) (by kernel_rfl) (fun _ _ _ h => h) (Or.inl ⟨by rfl, ?_⟩) (by assumption) ?_
          rotate_left
          first | (focus ((intro w hSw; (try dsimp only at hSw); go_simp); (try with_reducible rfl); done)) | fail
          try simp only [Act.put, List.getElem_toArray, List.getElem_cons_zero, List.getElem_cons_succ, List.setIfInBounds_toArray, List.set_cons_zero, List.set_cons_succ]
          refine wpAnyH_done (by kernel_rfl) ?_ _
          have HB := Lib.hid (HM.out.2.drew.trans (below_of_le b5 (show N ≤ wr.heap.size by omega)))
          have HK5 := Lib.hid hHeld
          have hN5 : N ≤ w5.heap.size := by have := HB.out.size; omega
          clear b5 hHeld
          by_cases hj0 : j = 0
          · subst hj0
            have hnx := Lib.hid (show chkG none L = chkG (prevA L (0 + 1)) (L.drop (0 + 1)) by rw [hst2.out]; rfl)
            go_wp2_with fail
            refine wp_region_held_drew (S := (fun _ => True)) (by kernel_rfl) ?_ (fun hHeld => ?_)
            · (try dsimp only); try trivial
            refine wpAnyH_take (i := 0) (v := ?_) rfl (by kernel_rfl) (by kernel_rfl) (by kernel_rfl) (fun _ _ _ h => h) (Or.inl ⟨by rfl, ?_⟩) (by assumption) ?_
            rotate_left
            first | (focus ((intro w hSw; (try dsimp only at hSw); go_simp); (try with_reducible rfl); done)) | fail
            try simp only [Act.put, List.getElem_toArray, List.getElem_cons_zero, List.setIfInBounds_toArray, List.set_cons_zero, List.set_cons_succ]
            refine wpAnyH_take (i := 1) (v := ?_) rfl (by kernel_rfl) (by kernel_rfl) (by kernel_rfl) (fun _ _ _ h => h) (Or.inl ⟨by rfl, ?_⟩) (by assumption) ?_
            rotate_left
            first | (focus ((intro w hSw; (try dsimp only at hSw); go_simp); (try with_reducible rfl); done)) | fail
            try simp only [Act.put, List.getElem_toArray, List.getElem_cons_zero, List.getElem_cons_succ, List.setIfInBounds_toArray, List.set_cons_zero, List.set_cons_succ]
            refine wpAnyH_take (i := 2) (v := ?_) rfl (by kernel_rfl) (by kernel_rfl) (by kernel_rfl) (fun _ _ _ h => h) (Or.inl ⟨by rfl, ?_⟩) (by assumption) ?_
            rotate_left
            first | (focus ((intro w hSw; (try dsimp only at hSw); go_simp); (try with_reducible rfl); done)) | fail
            try simp only [Act.put, List.getElem_toArray, List.getElem_cons_zero, List.getElem_cons_succ, List.setIfInBounds_toArray, List.set_cons_zero, List.set_cons_succ]
            refine wpAnyH_take (i := 3) (v := undef) rfl (by kernel_rfl) (by kernel_rfl) (by kernel_rfl) (fun _ _ _ h => h) (Or.inr ⟨by rfl, rfl⟩) (by assumption) ?_
            try simp only [Act.put, List.getElem_toArray, List.getElem_cons_zero, List.getElem_cons_succ, List.setIfInBounds_toArray, List.set_cons_zero, List.set_cons_succ]
            refine wpAnyH_take (i := 4) (v := undef) rfl (by kernel_rfl) (by kernel_rfl) (by kernel_rfl) (fun _ _ _ h => h) (Or.inr ⟨by rfl, rfl⟩) (by assumption) ?_
            try simp only [Act.put, List.getElem_toArray, List.getElem_cons_zero, List.getElem_cons_succ, List.setIfInBounds_toArray, List.set_cons_zero, List.set_cons_succ]
            refine wpAnyH_take (i := 5) (v := undef) rfl (by kernel_rfl) (by kernel_rfl) (by kernel_rfl) (fun _ _ _ h => h) (Or.inr ⟨by rfl, rfl⟩) (by assumption) ?_
            try simp only [Act.put, List.getElem_toArray, List.getElem_cons_zero, List.getElem_cons_succ, List.setIfInBounds_toArray, List.set_cons_zero, List.set_cons_succ]
            refine wpAnyH_take (i := 6) (v := undef) rfl (by kernel_rfl) (by kernel_rfl) (by kernel_rfl) (fun _ _ _ h => h) (Or.inr ⟨by rfl, rfl⟩) (by assumption) ?_
            try simp only [Act.put, List.getElem_toArray, List.getElem_cons_zero, List.getElem_cons_succ, List.setIfInBounds_toArray, List.set_cons_zero, List.set_cons_succ]
            refine wpAnyH_take (i := 7) (v := undef) rfl (by kernel_rfl) (by kernel_rfl) (by kernel_rfl) (fun _ _ _ h => h) (Or.inr ⟨by rfl, rfl⟩) (by assumption) ?_
            try simp only [Act.put, List.getElem_toArray, List.getElem_cons_zero, List.getElem_cons_succ, List.setIfInBounds_toArray, List.set_cons_zero, List.set_cons_succ]
            refine wpAnyH_take (i := 8) (v := undef) rfl (by kernel_rfl) (by kernel_rfl) (by kernel_rfl) (fun _ _ _ h => h) (Or.inr ⟨by rfl, rfl⟩) (by assumption) ?_
            try simp only [Act.put, List.getElem_toArray, List.getElem_cons_zero, List.getElem_cons_succ, List.setIfInBounds_toArray, List.set_cons_zero, List.set_cons_succ]
            refine wpAnyH_take (i := 9) (v := undef) rfl (by kernel_rfl) (by kernel_rfl) (by kernel_rfl) (fun _ _ _ h => h) (Or.inr ⟨by rfl, rfl⟩) (by assumption) ?_
            try simp only [Act.put, List.getElem_toArray, List.getElem_cons_zero, List.getElem_cons_succ, List.setIfInBounds_toArray, List.set_cons_zero, List.set_cons_succ]
            refine wpAnyH_take (i := 10) (v := undef) rfl (by kernel_rfl) (by kernel_rfl) (by kernel_rfl) (fun _ _ _ h => h) (Or.inr ⟨by rfl, rfl⟩) (by assumption) ?_
            try simp only [Act.put, List.getElem_toArray, List.getElem_cons_zero, List.getElem_cons_succ, List.setIfInBounds_toArray, List.set_cons_zero, List.set_cons_succ]
            refine wpAnyH_take (i := 11) (v := undef) rfl (by kernel_rfl) (by kernel_rfl) (by kernel_rfl) (fun _ _ _ h => h) (Or.inr ⟨by rfl, rfl⟩) (by assumption) ?_
            try simp only [Act.put, List.getElem_toArray, List.getElem_cons_zero, List.getElem_cons_succ, List.setIfInBounds_toArray, List.set_cons_zero, List.set_cons_succ]
            refine wpAnyH_take (i := 12) (v := undef) rfl (by kernel_rfl) (by kernel_rfl) (by kernel_rfl) (fun _ _ _ h => h) (Or.inr ⟨by rfl, rfl⟩) (by assumption) ?_
            try simp only [Act.put, List.getElem_toArray, List.getElem_cons_zero, List.getElem_cons_succ, List.setIfInBounds_toArray, List.set_cons_zero, List.set_cons_succ]
            refine wpAnyH_take (i := 13) (v := undef) rfl (by kernel_rfl) (by kernel_rfl) (by kernel_rfl) (fun _ _ _ h => h) (Or.inr ⟨by rfl, rfl⟩) (by assumption) ?_
            try simp only [Act.put, List.getElem_toArray, List.getElem_cons_zero, List.getElem_cons_succ, List.setIfInBounds_toArray, List.set_cons_zero, List.set_cons_succ]
            refine wpAnyH_take (i := 14) (v := undef) rfl (by kernel_rfl) (by kernel_rfl) (by kernel_rfl) (fun _ _ _ h => h) (Or.inr ⟨by rfl, rfl⟩) (by assumption) ?_
            try simp only [Act.put, List.getElem_toArray, List.getElem_cons_zero, List.getElem_cons_succ, List.setIfInBounds_toArray, List.set_cons_zero, List.set_cons_succ]
            refine wpAnyH_take (i := 15) (v := undef) rfl (by kernel_rfl) (by kernel_rfl) (by kernel_rfl) (fun _ _ _ h => h) (Or.inr ⟨by rfl, rfl⟩) (by assumption) ?_
            try simp only [Act.put, List.getElem_toArray, List.getElem_cons_zero, List.getElem_cons_succ, List.setIfInBounds_toArray, List.set_cons_zero, List.set_cons_succ]
            refine wpAnyH_take (i := 16) (v := ?_) rfl (by kernel_rfl) (by kernel_rfl) (by kernel_rfl) (fun _ _ _ h => h) (Or.inl ⟨by rfl, ?_⟩) (by assumption) ?_
            rotate_left
            first | (focus ((intro w hSw; (try dsimp only at hSw); go_simp); (try with_reducible rfl); done)) | fail
            try simp only [Act.put, List.getElem_toArray, List.getElem_cons_zero, List.getElem_cons_succ, List.setIfInBounds_toArray, List.set_cons_zero, List.set_cons_succ]
            refine wpAnyH_done (by kernel_rfl) ?_ _
            go_wp2
            go_roundw
            case rel => exact ⟨0 + 1, by omega, by go_num, hnx.out, HB.out.drew⟩
            case measure => simp [intOf]; omega
          · obtain ⟨y, hy⟩ : ∃ y, L[j - 1]? = some y := ⟨L[j - 1]'(by have := HL.out; omega), List.getElem?_eq_getElem _⟩
            obtain ⟨b1, o1, hA1, hb1, l0, l1, l2⟩ := (Ds.below (hN ▸ HR.out : Ds w N (some ⟨b0, o0, none⟩) L) HB.out).at_ hy
            cases hA1
            obtain ⟨⟨y1, y2⟩, y3⟩ := y
            have hpa := prevA_of (by omega) hy
            have hbp : badP (prevA L j) (d, i) = !aLt (y1, y2) (d, i) := by rw [hpa]; rfl
            have hal : aheadB y1 y2 d i = aLt (y1, y2) (d, i) := by
              rw [Bool.eq_iff_iff]
              unfold aheadB aLt
              split <;> (simp only [decide_eq_true_eq]; omega)
            have CY := Lib.hid (fun w => CA.out y1 y2 d i w)
            rw [hal] at CY
            have hst3 := Lib.hid (show chkG none L = if (!aLt (y1, y2) (d, i)) = true then 6 else chkG (prevA L (j + 1)) (L.drop (j + 1)) by rw [hst2.out, hbp])
            generalize aLt (y1, y2) (d, i) = lt at *
            have HL5 := Lib.hid (And.intro l0 l1)
            obtain ⟨j', rfl⟩ : ∃ j', j = j' + 1 := ⟨j - 1, by omega⟩
            rw [Nat.add_sub_cancel] at HL5
            have hw1 : IntKind.i64.wrap (j' : Int) = (j' : Int) := by rw [IntKind.wrap_i64]; omega
            have hj1 : (0 : Int) ≤ (j' : Int) := by omega
            have hj2 : (j' : Int) < (n : Int) := by omega
            have hj3 : (0 : Int) ≤ (j' : Int) + 1 := by omega
            have hj4 : (j' : Int) + 1 < (n : Int) := by omega
            clear hy l0 l1 l2 hpa hbp hal
            go_wp2_with fail
            refine wp_region_held_drew (S := (fun W => W.cell? ⟨b0, o0 + (j' + 1) * 3, none⟩ = some (.int .i64 d) ∧ W.cell? ⟨b0, o0 + (j' + 1) * 3 + 1, none⟩ = some (.int .i64 i) ∧ W.cell? ⟨b0, o0 + j' * 3, none⟩ = some (.int .i64 y1) ∧ W.cell? ⟨b0, o0 + j' * 3 + 1, none⟩ = some (.int .i64 y2))) (by kernel_rfl) ?_ (fun hHeld => ?_)
            · (try dsimp only); exact ⟨HK5.out.1, HK5.out.2.1, HL5.out.1, HL5.out.2⟩
            refine wpAnyH_take (i := 0) (v := ?_) rfl (by kernel_rfl) (by kernel_rfl) (by kernel_rfl) (fun _ _ _ h => h) (Or.inl ⟨by rfl, ?_⟩) (by assumption) ?_
            rotate_left
            first | (focus ((intro w hSw; (try dsimp only at hSw); go_simp); (try with_reducible rfl); done)) | fail
            try simp only [Act.put, List.getElem_toArray, List.getElem_cons_zero, List.setIfInBounds_toArray, List.set_cons_zero, List.set_cons_succ]
            refine wpAnyH_take (i := 1) (v := ?_) rfl (by kernel_rfl) (by kernel_rfl) (by kernel_rfl) (fun _ _ _ h => h) (Or.inl ⟨by rfl, ?_⟩) (by assumption) ?_
            rotate_left
            first | (focus ((intro w hSw; (try dsimp only at hSw); go_simp); (try with_reducible rfl); done)) | fail
            try simp only [Act.put, List.getElem_toArray, List.getElem_cons_zero, List.getElem_cons_succ, List.setIfInBounds_toArray, List.set_cons_zero, List.set_cons_succ]
            refine wpAnyH_take (i := 2) (v := ?_) rfl (by kernel_rfl) (by kernel_rfl) (by kernel_rfl) (fun _ _ _ h => h) (Or.inl ⟨by rfl, ?_⟩) (by assumption) ?_
            rotate_left
            first | (focus ((intro w hSw; (try dsimp only at hSw); go_simp); (try with_reducible rfl); done)) | fail
            try simp only [Act.put, List.getElem_toArray, List.getElem_cons_zero, List.getElem_cons_succ, List.setIfInBounds_toArray, List.set_cons_zero, List.set_cons_succ]
            refine wpAnyH_take (i := 3) (v := ?_) rfl (by kernel_rfl) (by kernel_rfl) (by kernel_rfl) (fun _ _ _ h => h) (Or.inl ⟨by rfl, ?_⟩) (by assumption) ?_
            rotate_left
            first | (focus ((intro w hSw; (try dsimp only at hSw); go_simp); (try with_reducible rfl); done)) | fail
            try simp only [Act.put, List.getElem_toArray, List.getElem_cons_zero, List.getElem_cons_succ, List.setIfInBounds_toArray, List.set_cons_zero, List.set_cons_succ]
            refine wpAnyH_take (i := 4) (v := ?_) rfl (by kernel_rfl) (by kernel_rfl) (by kernel_rfl) (fun _ _ _ h => h) (Or.inl ⟨by rfl, ?_⟩) (by assumption) ?_
            rotate_left
            first | (focus ((intro w hSw; (try dsimp only at hSw); go_simp); (try with_reducible rfl); done)) | fail
            try simp only [Act.put, List.getElem_toArray, List.getElem_cons_zero, List.getElem_cons_succ, List.setIfInBounds_toArray, List.set_cons_zero, List.set_cons_succ]
            refine wpAnyH_take (i := 5) (v := ?_) rfl (by kernel_rfl) (by kernel_rfl) (by kernel_rfl) (fun _ _ _ h => h) (Or.inl ⟨by rfl, ?_⟩) (by assumption) ?_
            rotate_left
            first | (focus ((intro w hSw; (try dsimp only at hSw); go_simp); (try with_reducible rfl); done)) | fail
            try simp only [Act.put, List.getElem_toArray, List.getElem_cons_zero, List.getElem_cons_succ, List.setIfInBounds_toArray, List.set_cons_zero, List.set_cons_succ]
            refine wpAnyH_take (i := 6) (v := ?_) rfl (by kernel_rfl) (by kernel_rfl) (by kernel_rfl) (fun _ _ _ h => h) (Or.inl ⟨by rfl, ?_⟩) (by assumption) ?_
            rotate_left
            first | (focus ((intro w hSw; (try dsimp only at hSw); go_simp); (try with_reducible rfl); done)) | fail
            try simp only [Act.put, List.getElem_toArray, List.getElem_cons_zero, List.getElem_cons_succ, List.setIfInBounds_toArray, List.set_cons_zero, List.set_cons_succ]
            refine wpAnyH_take (i := 7) (v := ?_) rfl (by kernel_rfl) (by kernel_rfl) (by kernel_rfl) (fun _ _ _ h => h) (Or.inl ⟨by rfl, ?_⟩) (by assumption) ?_
            rotate_left
            first | (focus ((intro w hSw; (try dsimp only at hSw); go_simp); (try with_reducible rfl); done)) | fail
            try simp only [Act.put, List.getElem_toArray, List.getElem_cons_zero, List.getElem_cons_succ, List.setIfInBounds_toArray, List.set_cons_zero, List.set_cons_succ]
            refine wpAnyH_take (i := 8) (v := ?_) rfl (by kernel_rfl) (by kernel_rfl) (by kernel_rfl) (fun _ _ _ h => h) (Or.inl ⟨by rfl, ?_⟩) (by assumption) ?_
            rotate_left
            first | (focus ((intro w hSw; (try dsimp only at hSw); go_simp); (try with_reducible rfl); done)) | fail
            try simp only [Act.put, List.getElem_toArray, List.getElem_cons_zero, List.getElem_cons_succ, List.setIfInBounds_toArray, List.set_cons_zero, List.set_cons_succ]
            refine wpAnyH_take (i := 9) (v := ?_) rfl (by kernel_rfl) (by kernel_rfl) (by kernel_rfl) (fun _ _ _ h => h) (Or.inl ⟨by rfl, ?_⟩) (by assumption) ?_
            rotate_left
            first | (focus ((intro w hSw; (try dsimp only at hSw); go_simp); (try with_reducible rfl); done)) | fail
            try simp only [Act.put, List.getElem_toArray, List.getElem_cons_zero, List.getElem_cons_succ, List.setIfInBounds_toArray, List.set_cons_zero, List.set_cons_succ]
            refine wpAnyH_take (i := 10) (v := ?_) rfl (by kernel_rfl) (by kernel_rfl) (by kernel_rfl) (fun _ _ _ h => h) (Or.inl ⟨by rfl, ?_⟩) (by assumption) ?_
            rotate_left
            first | (focus ((intro w hSw; (try dsimp only at hSw); go_simp); (try with_reducible rfl); done)) | fail
            try simp only [Act.put, List.getElem_toArray, List.getElem_cons_zero, List.getElem_cons_succ, List.setIfInBounds_toArray, List.set_cons_zero, List.set_cons_succ]
            refine wpAnyH_take (i := 11) (v := ?_) rfl (by kernel_rfl) (by kernel_rfl) (by kernel_rfl) (fun _ _ _ h => h) (Or.inl ⟨by rfl, ?_⟩) (by assumption) ?_
            rotate_left
            first | (focus ((intro w hSw; (try dsimp only at hSw); go_simp); (try with_reducible rfl); done)) | fail
            try simp only [Act.put, List.getElem_toArray, List.getElem_cons_zero, List.getElem_cons_succ, List.setIfInBounds_toArray, List.set_cons_zero, List.set_cons_succ]
            refine wpAnyH_take (i := 12) (v := ?_) rfl (by kernel_rfl) (by kernel_rfl) (by kernel_rfl) (fun _ _ _ h => h) (Or.inl ⟨by rfl, ?_⟩) (by assumption) ?_
            rotate_left
            first | (focus ((intro w hSw; (try dsimp only at hSw); go_simp); (try with_reducible rfl); done)) | fail
            try simp only [Act.put, List.getElem_toArray, List.getElem_cons_zero, List.getElem_cons_succ, List.setIfInBounds_toArray, List.set_cons_zero, List.set_cons_succ]
            refine wpAnyH_take (i := 13) (v := ?_) rfl (by kernel_rfl) (by kernel_rfl) (by kernel_rfl) (fun _ _ _ h => h) (Or.inl ⟨by rfl, ?_⟩) (by assumption) ?_
            rotate_left
            first | (focus ((intro w hSw; (try dsimp only at hSw); go_simp); (try with_reducible rfl); done)) | fail
            try simp only [Act.put, List.getElem_toArray, List.getElem_cons_zero, List.getElem_cons_succ, List.setIfInBounds_toArray, List.set_cons_zero, List.set_cons_succ]
            refine wpAnyH_ready (rs := [14]) (by kernel_rfl) (by simp) ?_
            refine AllReadyH.cons rfl (fun K hK => ?_) AllReadyH.nil
            go_simp
            refine (CY.out _).mono ?_; rintro e w6 ⟨rfl, b6⟩
            go_wp2_with fail
            refine hK.out _ _ ?_ (fun hHeld => ?_)
            · (try dsimp only); exact ⟨(b6.cell (by show b0 < w5.heap.size; omega)).trans hHeld.1, (b6.cell (by show b0 < w5.heap.size; omega)).trans hHeld.2.1, (b6.cell (by show b0 < w5.heap.size; omega)).trans hHeld.2.2.1, (b6.cell (by show b0 < w5.heap.size; omega)).trans hHeld.2.2.2⟩
            clear hK K
            try simp only [Act.put, List.getElem_toArray, List.getElem_cons_zero, List.getElem_cons_succ, List.setIfInBounds_toArray, List.set_cons_zero, List.set_cons_succ]
            refine wpAnyH_take (i := 15) (v := ?_) rfl (by kernel_rfl) (by kernel_rfl) (by kernel_rfl) (fun _ _ _ h => h) (Or.inl ⟨by rfl, ?_⟩) (by assumption) ?_
            rotate_left
            first | (focus ((intro w hSw; (try dsimp only at hSw); go_simp); (try with_reducible rfl); done)) | fail
            try simp only [Act.put, List.getElem_toArray, List.getElem_cons_zero, List.getElem_cons_succ, List.setIfInBounds_toArray, List.set_cons_zero, List.set_cons_succ]
            refine wpAnyH_take (i := 16) (v := ?_) rfl (by kernel_rfl) (by kernel_rfl) (by kernel_rfl) (fun _ _ _ h => h) (Or.inl ⟨by rfl, ?_⟩) (by assumption) ?_
            rotate_left
            first | (focus ((intro w hSw; (try dsimp only at hSw); go_simp); (try with_reducible rfl); done)) | fail
            try simp only [Act.put, List.getElem_toArray, List.getElem_cons_zero, List.getElem_cons_succ, List.setIfInBounds_toArray, List.set_cons_zero, List.set_cons_succ]
            refine wpAnyH_done (by kernel_rfl) ?_ _
            have HB6 := Lib.hid (HB.out.drew.trans (below_of_le b6 (show N ≤ w5.heap.size by omega)))
            clear b6 hHeld
            cases lt
            · have hE := Lib.hid (show chkG none L = 6 by rw [hst3.out]; rfl)
              go_wp2
              go_ret
              exact ⟨ret_int hE.out.symm, HB6.out⟩
            · have hnx := Lib.hid (show chkG none L = chkG (prevA L (j' + 1 + 1)) (L.drop (j' + 1 + 1)) by rw [hst3.out]; rfl)
              go_wp2
              go_roundw
              case rel => exact ⟨j' + 1 + 1, by omega, by go_num, hnx.out, HB6.out⟩
              case measure => simp [intOf]; omega
      · have hj' : j = n := by omega
        subst hj'
        have hE := Lib.hid (show chkG none L = 0 by
          rw [HM.out.1, List.drop_eq_nil_of_le (by have := HL.out; omega)]
          cases prevA L j <;> rfl)
        go_wp2
        go_ret
        exact ⟨ret_int hE.out.symm, HM.out.2⟩
end Go.Proofs.YtpakmeegldgjmaaGreat
/- Layer 17 (vector): Check, Of. -/
namespace Go.Proofs.YtpakmeegldgjmaaGreat
open Go.RowKit
set_option linter.unusedVariables false
set_option maxRecDepth 100000
attribute [local go_sem ↓] Go.wp_at_zero Go.wp_at_succ

set_option maxHeartbeats 2000000 in
theorem vccheck_any (w : World) (A : Option Addr) (c : Nat) (L : List Dt) (hr : MsAt w A L) (hn : L.length ≤ 9223372036854775807) :
    Calls Tryz.prog 60 #[.slice A L.length c] w fun e w' => e = .returned (.int .i64 (chkE L)) ∧ Below w.heap.size w w' := by
  have CR := Lib.hid (fun a n w => vcright_any a n w)
  have CA := Lib.hid (fun d i d' i' w => compare_any d i d' i' w)
  have HR := Lib.hid hr
  by_cases hlong : 4096 < L.length
  · have hE : chkE L = 3 := by unfold chkE; rw [if_pos hlong]
    rw [hE]
    have B0 := Lib.hid (Below.refl w.heap.size w)
    clear hr hE
    generalize L.length = n at *
    go_enter Tryz.func60, Tryz.ntmps60
    go_wp2
    go_ret
    exact ⟨rfl, B0.out⟩
  · have hE : chkE L = chkG none L := by unfold chkE; rw [if_neg hlong]
    rw [hE]
    generalize hlen : L.length = n at *
    have HL := Lib.hid hlen
    have B0 := Lib.hid (Below.refl w.heap.size w)
    generalize hN : w.heap.size = N at *
    unfold acV at CR
    unfold actV at CA
    have hn4 : n ≤ 4096 := by omega
    clear hr hE hlen hlong
    go_enter Tryz.func60, Tryz.ntmps60
    go_wp2_with fail
    go_loopw [10] (fun i wr => ∃ (j : Nat), j ≤ n ∧ i = .int .i64 j ∧ chkG none L = chkG (prevA L j) (L.drop j) ∧ Below N w wr) (fun i _ => n - (intOf i).toNat)
    case atStart => exact ⟨0, by omega, rfl, rfl, B0.out⟩
    case round =>
      obtain ⟨j, hj, rfl, hchk, hb⟩ := hrel
      have HM := Lib.hid (And.intro hchk hb)
      clear hchk hb B0
      by_cases hlt : j < n
      · obtain ⟨x, hx⟩ : ∃ x, L[j]? = some x := ⟨L[j]'(by have := HL.out; omega), List.getElem?_eq_getElem _⟩
        obtain ⟨b0, o0, hA, hb0, k0, k1, k2⟩ := (Ds.below (hN ▸ HR.out : Ds w N A L) HM.out.2).at_ hx
        have hst := Lib.hid (HM.out.1.trans (chk_step hx))
        have hNr : N ≤ wr.heap.size := by have := HM.out.2.size; omega
        obtain ⟨⟨d, i⟩, s⟩ := x
        simp only at k0 k1 k2
        have HC := Lib.hid (C3.new wr d i s 111)
        have HB4 := Lib.hid (HM.out.2.alloc hNr (.cells #[.int .i64 d, .int .i64 i, .int .i64 s] 111))
        have hs4 : (wr.alloc (.cells #[.int .i64 d, .int .i64 i, .int .i64 s] 111)).heap.size = wr.heap.size + 1 := by simp
        have HS4 := Lib.hid hs4
        have CX := Lib.hid (fun w => CR.out (d, i) s w)
        clear hx hs4
        subst hA
        cases hr : rightD ((d, i), s)
        · rw [hr] at CX
          have hE := Lib.hid (show chkG none L = 4 by rw [hst.out, hr]; rfl)
          clear hr
          go_wp2_with fail
          generalize hP : wr.heap.size = P at *
          generalize (wr.alloc (.cells #[.int .i64 d, .int .i64 i, .int .i64 s] 111)) = W4 at *
          obtain ⟨l0, l1, l2⟩ := HC.out
          have hsz4 := HS4.out
          refine (CX.out _).mono ?_; rintro e w5 ⟨rfl, b5⟩
          have HB := Lib.hid (HB4.out.trans (below_of_le b5 (by omega)))
          clear b5 l0 l1 l2
          go_wp2
          go_ret
          exact ⟨ret_int hE.out.symm, HB.out⟩
        · rw [hr] at CX
          have hst2 := Lib.hid (show chkG none L = if badP (prevA L j) (d, i) = true then 6 else chkG (prevA L (j + 1)) (L.drop (j + 1)) by rw [hst.out, hr]; rfl)
          clear hr
          go_wp2_with fail
          generalize hP : wr.heap.size = P at *
          generalize (wr.alloc (.cells #[.int .i64 d, .int .i64 i, .int .i64 s] 111)) = W4 at *
          have hsz4 := HS4.out
          refine (CX.out _).mono ?_; rintro e w5 ⟨rfl, b5⟩
          have HB := Lib.hid (And.intro (HB4.out.trans (below_of_le b5 (by omega))) (HC.out.up (by omega) b5))
          have hN5 : P < w5.heap.size := by have := b5.size; omega
          clear b5 k0 k1 k2 hsz4 HS4 HC HB4
          by_cases hj0 : j = 0
          · subst hj0
            have hnx := Lib.hid (show chkG none L = chkG (prevA L (0 + 1)) (L.drop (0 + 1)) by rw [hst2.out]; rfl)
            go_wp2_with fail
            refine wp_region_held_drew (S := (fun _ => True)) (by kernel_rfl) ?_ (fun hHeld => ?_)
            · (try dsimp only); try trivial
            refine wpAnyH_take (i := 0) (v := ?_) rfl (by kernel_rfl) (by kernel_rfl) (by kernel_rfl) (fun _ _ _ h => h) (Or.inl ⟨by rfl, ?_⟩) (by assumption) ?_
            rotate_left
            first | (focus ((intro w hSw; (try dsimp only at hSw); go_simp); (try with_reducible rfl); done)) | fail
            try simp only [Act.put, List.getElem_toArray, List.getElem_cons_zero, List.setIfInBounds_toArray, List.set_cons_zero, List.set_cons_succ]
            refine wpAnyH_take (i := 1) (v := ?_) rfl (by kernel_rfl) (by kernel_rfl) (by kernel_rfl) (fun _ _ _ h => h) (Or.inl ⟨by rfl, ?_⟩) (by assumption) ?_
            rotate_left
            first | (focus ((intro w hSw; (try dsimp only at hSw); go_simp); (try with_reducible rfl); done)) | fail
            try simp only [Act.put, List.getElem_toArray, List.getElem_cons_zero, List.getElem_cons_succ, List.setIfInBounds_toArray, List.set_cons_zero, List.set_cons_succ]
            refine wpAnyH_take (i := 2) (v := ?_) rfl (by kernel_rfl) (by kernel_rfl) (by kernel_rfl) (fun _ _ _ h => h) (Or.inl ⟨by rfl, ?_⟩) (by assumption) ?_
            rotate_left
            first | (focus ((intro w hSw; (try dsimp only at hSw); go_simp); (try with_reducible rfl); done)) | fail
            try simp only [Act.put, List.getElem_toArray, List.getElem_cons_zero, List.getElem_cons_succ, List.setIfInBounds_toArray, List.set_cons_zero, List.set_cons_succ]
            refine wpAnyH_take (i := 3) (v := undef) rfl (by kernel_rfl) (by kernel_rfl) (by kernel_rfl) (fun _ _ _ h => h) (Or.inr ⟨by rfl, rfl⟩) (by assumption) ?_
            try simp only [Act.put, List.getElem_toArray, List.getElem_cons_zero, List.getElem_cons_succ, List.setIfInBounds_toArray, List.set_cons_zero, List.set_cons_succ]
            refine wpAnyH_take (i := 4) (v := undef) rfl (by kernel_rfl) (by kernel_rfl) (by kernel_rfl) (fun _ _ _ h => h) (Or.inr ⟨by rfl, rfl⟩) (by assumption) ?_
            try simp only [Act.put, List.getElem_toArray, List.getElem_cons_zero, List.getElem_cons_succ, List.setIfInBounds_toArray, List.set_cons_zero, List.set_cons_succ]
            refine wpAnyH_take (i := 5) (v := undef) rfl (by kernel_rfl) (by kernel_rfl) (by kernel_rfl) (fun _ _ _ h => h) (Or.inr ⟨by rfl, rfl⟩) (by assumption) ?_
            try simp only [Act.put, List.getElem_toArray, List.getElem_cons_zero, List.getElem_cons_succ, List.setIfInBounds_toArray, List.set_cons_zero, List.set_cons_succ]
            refine wpAnyH_take (i := 6) (v := undef) rfl (by kernel_rfl) (by kernel_rfl) (by kernel_rfl) (fun _ _ _ h => h) (Or.inr ⟨by rfl, rfl⟩) (by assumption) ?_
            try simp only [Act.put, List.getElem_toArray, List.getElem_cons_zero, List.getElem_cons_succ, List.setIfInBounds_toArray, List.set_cons_zero, List.set_cons_succ]
            refine wpAnyH_take (i := 7) (v := undef) rfl (by kernel_rfl) (by kernel_rfl) (by kernel_rfl) (fun _ _ _ h => h) (Or.inr ⟨by rfl, rfl⟩) (by assumption) ?_
            try simp only [Act.put, List.getElem_toArray, List.getElem_cons_zero, List.getElem_cons_succ, List.setIfInBounds_toArray, List.set_cons_zero, List.set_cons_succ]
            refine wpAnyH_take (i := 8) (v := undef) rfl (by kernel_rfl) (by kernel_rfl) (by kernel_rfl) (fun _ _ _ h => h) (Or.inr ⟨by rfl, rfl⟩) (by assumption) ?_
            try simp only [Act.put, List.getElem_toArray, List.getElem_cons_zero, List.getElem_cons_succ, List.setIfInBounds_toArray, List.set_cons_zero, List.set_cons_succ]
            refine wpAnyH_take (i := 9) (v := undef) rfl (by kernel_rfl) (by kernel_rfl) (by kernel_rfl) (fun _ _ _ h => h) (Or.inr ⟨by rfl, rfl⟩) (by assumption) ?_
            try simp only [Act.put, List.getElem_toArray, List.getElem_cons_zero, List.getElem_cons_succ, List.setIfInBounds_toArray, List.set_cons_zero, List.set_cons_succ]
            refine wpAnyH_take (i := 10) (v := undef) rfl (by kernel_rfl) (by kernel_rfl) (by kernel_rfl) (fun _ _ _ h => h) (Or.inr ⟨by rfl, rfl⟩) (by assumption) ?_
            try simp only [Act.put, List.getElem_toArray, List.getElem_cons_zero, List.getElem_cons_succ, List.setIfInBounds_toArray, List.set_cons_zero, List.set_cons_succ]
            refine wpAnyH_take (i := 11) (v := undef) rfl (by kernel_rfl) (by kernel_rfl) (by kernel_rfl) (fun _ _ _ h => h) (Or.inr ⟨by rfl, rfl⟩) (by assumption) ?_
            try simp only [Act.put, List.getElem_toArray, List.getElem_cons_zero, List.getElem_cons_succ, List.setIfInBounds_toArray, List.set_cons_zero, List.set_cons_succ]
            refine wpAnyH_take (i := 12) (v := undef) rfl (by kernel_rfl) (by kernel_rfl) (by kernel_rfl) (fun _ _ _ h => h) (Or.inr ⟨by rfl, rfl⟩) (by assumption) ?_
            try simp only [Act.put, List.getElem_toArray, List.getElem_cons_zero, List.getElem_cons_succ, List.setIfInBounds_toArray, List.set_cons_zero, List.set_cons_succ]
            refine wpAnyH_take (i := 13) (v := ?_) rfl (by kernel_rfl) (by kernel_rfl) (by kernel_rfl) (fun _ _ _ h => h) (Or.inl ⟨by rfl, ?_⟩) (by assumption) ?_
            rotate_left
            first | (focus ((intro w hSw; (try dsimp only at hSw); go_simp); (try with_reducible rfl); done)) | fail
            try simp only [Act.put, List.getElem_toArray, List.getElem_cons_zero, List.getElem_cons_succ, List.setIfInBounds_toArray, List.set_cons_zero, List.set_cons_succ]
            refine wpAnyH_take (i := 14) (v := ?_) rfl (by kernel_rfl) (by kernel_rfl) (by kernel_rfl) (fun _ _ _ h => h) (Or.inl ⟨by rfl, ?_⟩) (by assumption) ?_
            rotate_left
            first | (focus ((intro w hSw; (try dsimp only at hSw); go_simp); (try with_reducible rfl); done)) | fail
            try simp only [Act.put, List.getElem_toArray, List.getElem_cons_zero, List.getElem_cons_succ, List.setIfInBounds_toArray, List.set_cons_zero, List.set_cons_succ]
            refine wpAnyH_done (by kernel_rfl) ?_ _
            go_wp2
            go_roundw
            case rel => exact ⟨0 + 1, by omega, by go_num, hnx.out, HB.out.1.drew⟩
            case measure => simp [intOf]; omega
          · obtain ⟨y, hy⟩ : ∃ y, L[j - 1]? = some y := ⟨L[j - 1]'(by have := HL.out; omega), List.getElem?_eq_getElem _⟩
            obtain ⟨b1, o1, hA1, hb1, l0, l1, l2⟩ := (Ds.below (hN ▸ HR.out : Ds w N (some ⟨b0, o0, none⟩) L) HB.out.1).at_ hy
            cases hA1
            obtain ⟨⟨y1, y2⟩, y3⟩ := y
            have hpa := prevA_of (by omega) hy
            have hbp : badP (prevA L j) (d, i) = !aLt (y1, y2) (d, i) := by rw [hpa]; rfl
            have hal : decide (0 ≤ orI (cmpI y1 d) (cmpI y2 i)) = !aLt (y1, y2) (d, i) := cmp_aLt (y1, y2) (d, i)
            have CY := Lib.hid (fun w => CA.out y1 y2 d i w)
            have hst3 := Lib.hid (show chkG none L = if (!aLt (y1, y2) (d, i)) = true then 6 else chkG (prevA L (j + 1)) (L.drop (j + 1)) by rw [hst2.out, hbp])
            generalize aLt (y1, y2) (d, i) = lt at *
            generalize orI (cmpI y1 d) (cmpI y2 i) = z at *
            have HL5 := Lib.hid (And.intro l0 l1)
            obtain ⟨j', rfl⟩ : ∃ j', j = j' + 1 := ⟨j - 1, by omega⟩
            rw [Nat.add_sub_cancel] at HL5
            have hw1 : IntKind.i64.wrap (j' : Int) = (j' : Int) := by rw [IntKind.wrap_i64]; omega
            have hj1 : (0 : Int) ≤ (j' : Int) := by omega
            have hj2 : (j' : Int) < (n : Int) := by omega
            clear hy l0 l1 l2 hpa hbp
            cases lt
            · have hE := Lib.hid (show chkG none L = 6 by rw [hst3.out]; rfl)
              have hal' : decide (0 ≤ z) = true := by rw [hal]; rfl
              clear hal
              go_wp2_with fail
              refine wp_region_held_drew (S := (fun W => W.cell? ⟨P, 0, none⟩ = some (.int .i64 d) ∧ W.cell? ⟨P, 1, none⟩ = some (.int .i64 i) ∧ W.cell? ⟨b0, o0 + j' * 3, none⟩ = some (.int .i64 y1) ∧ W.cell? ⟨b0, o0 + j' * 3 + 1, none⟩ = some (.int .i64 y2))) (by kernel_rfl) ?_ (fun hHeld => ?_)
              · (try dsimp only); exact ⟨HB.out.2.1, HB.out.2.2.1, HL5.out.1, HL5.out.2⟩
              refine wpAnyH_take (i := 0) (v := ?_) rfl (by kernel_rfl) (by kernel_rfl) (by kernel_rfl) (fun _ _ _ h => h) (Or.inl ⟨by rfl, ?_⟩) (by assumption) ?_
              rotate_left
              first | (focus ((intro w hSw; (try dsimp only at hSw); go_simp); (try with_reducible rfl); done)) | fail
              try simp only [Act.put, List.getElem_toArray, List.getElem_cons_zero, List.setIfInBounds_toArray, List.set_cons_zero, List.set_cons_succ]
              refine wpAnyH_take (i := 1) (v := ?_) rfl (by kernel_rfl) (by kernel_rfl) (by kernel_rfl) (fun _ _ _ h => h) (Or.inl ⟨by rfl, ?_⟩) (by assumption) ?_
              rotate_left
              first | (focus ((intro w hSw; (try dsimp only at hSw); go_simp); (try with_reducible rfl); done)) | fail
              try simp only [Act.put, List.getElem_toArray, List.getElem_cons_zero, List.getElem_cons_succ, List.setIfInBounds_toArray, List.set_cons_zero, List.set_cons_succ]
              refine wpAnyH_take (i := 2) (v := ?_) rfl (by kernel_rfl) (by kernel_rfl) (by kernel_rfl) (fun _ _ _ h => h) (Or.inl ⟨by rfl, ?_⟩) (by assumption) ?_
              rotate_left
              first | (focus ((intro w hSw; (try dsimp only at hSw); go_simp); (try with_reducible rfl); done)) | fail
              try simp only [Act.put, List.getElem_toArray, List.getElem_cons_zero, List.getElem_cons_succ, List.setIfInBounds_toArray, List.set_cons_zero, List.set_cons_succ]
              refine wpAnyH_take (i := 3) (v := ?_) rfl (by kernel_rfl) (by kernel_rfl) (by kernel_rfl) (fun _ _ _ h => h) (Or.inl ⟨by rfl, ?_⟩) (by assumption) ?_
              rotate_left
              first | (focus ((intro w hSw; (try dsimp only at hSw); go_simp); (try with_reducible rfl); done)) | fail
              try simp only [Act.put, List.getElem_toArray, List.getElem_cons_zero, List.getElem_cons_succ, List.setIfInBounds_toArray, List.set_cons_zero, List.set_cons_succ]
              refine wpAnyH_take (i := 4) (v := ?_) rfl (by kernel_rfl) (by kernel_rfl) (by kernel_rfl) (fun _ _ _ h => h) (Or.inl ⟨by rfl, ?_⟩) (by assumption) ?_
              rotate_left
              first | (focus ((intro w hSw; (try dsimp only at hSw); go_simp); (try with_reducible rfl); done)) | fail
              try simp only [Act.put, List.getElem_toArray, List.getElem_cons_zero, List.getElem_cons_succ, List.setIfInBounds_toArray, List.set_cons_zero, List.set_cons_succ]
              refine wpAnyH_take (i := 5) (v := ?_) rfl (by kernel_rfl) (by kernel_rfl) (by kernel_rfl) (fun _ _ _ h => h) (Or.inl ⟨by rfl, ?_⟩) (by assumption) ?_
              rotate_left
              first | (focus ((intro w hSw; (try dsimp only at hSw); go_simp); (try with_reducible rfl); done)) | fail
              try simp only [Act.put, List.getElem_toArray, List.getElem_cons_zero, List.getElem_cons_succ, List.setIfInBounds_toArray, List.set_cons_zero, List.set_cons_succ]
              refine wpAnyH_take (i := 6) (v := ?_) rfl (by kernel_rfl) (by kernel_rfl) (by kernel_rfl) (fun _ _ _ h => h) (Or.inl ⟨by rfl, ?_⟩) (by assumption) ?_
              rotate_left
              first | (focus ((intro w hSw; (try dsimp only at hSw); go_simp); (try with_reducible rfl); done)) | fail
              try simp only [Act.put, List.getElem_toArray, List.getElem_cons_zero, List.getElem_cons_succ, List.setIfInBounds_toArray, List.set_cons_zero, List.set_cons_succ]
              refine wpAnyH_take (i := 7) (v := ?_) rfl (by kernel_rfl) (by kernel_rfl) (by kernel_rfl) (fun _ _ _ h => h) (Or.inl ⟨by rfl, ?_⟩) (by assumption) ?_
              rotate_left
              first | (focus ((intro w hSw; (try dsimp only at hSw); go_simp); (try with_reducible rfl); done)) | fail
              try simp only [Act.put, List.getElem_toArray, List.getElem_cons_zero, List.getElem_cons_succ, List.setIfInBounds_toArray, List.set_cons_zero, List.set_cons_succ]
              refine wpAnyH_take (i := 8) (v := ?_) rfl (by kernel_rfl) (by kernel_rfl) (by kernel_rfl) (fun _ _ _ h => h) (Or.inl ⟨by rfl, ?_⟩) (by assumption) ?_
              rotate_left
              first | (focus ((intro w hSw; (try dsimp only at hSw); go_simp); (try with_reducible rfl); done)) | fail
              try simp only [Act.put, List.getElem_toArray, List.getElem_cons_zero, List.getElem_cons_succ, List.setIfInBounds_toArray, List.set_cons_zero, List.set_cons_succ]
              refine wpAnyH_take (i := 9) (v := ?_) rfl (by kernel_rfl) (by kernel_rfl) (by kernel_rfl) (fun _ _ _ h => h) (Or.inl ⟨by rfl, ?_⟩) (by assumption) ?_
              rotate_left
              first | (focus ((intro w hSw; (try dsimp only at hSw); go_simp); (try with_reducible rfl); done)) | fail
              try simp only [Act.put, List.getElem_toArray, List.getElem_cons_zero, List.getElem_cons_succ, List.setIfInBounds_toArray, List.set_cons_zero, List.set_cons_succ]
              refine wpAnyH_take (i := 10) (v := ?_) rfl (by kernel_rfl) (by kernel_rfl) (by kernel_rfl) (fun _ _ _ h => h) (Or.inl ⟨by rfl, ?_⟩) (by assumption) ?_
              rotate_left
              first | (focus ((intro w hSw; (try dsimp only at hSw); go_simp); (try with_reducible rfl); done)) | fail
              try simp only [Act.put, List.getElem_toArray, List.getElem_cons_zero, List.getElem_cons_succ, List.setIfInBounds_toArray, List.set_cons_zero, List.set_cons_succ]
              refine wpAnyH_ready (rs := [11]) (by kernel_rfl) (by simp) ?_
              refine AllReadyH.cons rfl (fun K hK => ?_) AllReadyH.nil
              go_simp
              refine (CY.out _).mono ?_; rintro e w6 ⟨rfl, b6⟩
              go_wp2_with fail
              refine hK.out _ _ ?_ (fun hHeld => ?_)
              · (try dsimp only); exact ⟨(b6.cell (by show P < w5.heap.size; omega)).trans hHeld.1, (b6.cell (by show P < w5.heap.size; omega)).trans hHeld.2.1, (b6.cell (by show b0 < w5.heap.size; omega)).trans hHeld.2.2.1, (b6.cell (by show b0 < w5.heap.size; omega)).trans hHeld.2.2.2⟩
              clear hK K
              try simp only [Act.put, List.getElem_toArray, List.getElem_cons_zero, List.getElem_cons_succ, List.setIfInBounds_toArray, List.set_cons_zero, List.set_cons_succ]
              refine wpAnyH_take (i := 12) (v := ?_) rfl (by kernel_rfl) (by kernel_rfl) (by kernel_rfl) (fun _ _ _ h => h) (Or.inl ⟨by rfl, ?_⟩) (by assumption) ?_
              rotate_left
              first | (focus ((intro w hSw; (try dsimp only at hSw); go_simp); (try with_reducible rfl); done)) | fail
              try simp only [Act.put, List.getElem_toArray, List.getElem_cons_zero, List.getElem_cons_succ, List.setIfInBounds_toArray, List.set_cons_zero, List.set_cons_succ]
              refine wpAnyH_take (i := 13) (v := ?_) rfl (by kernel_rfl) (by kernel_rfl) (by kernel_rfl) (fun _ _ _ h => h) (Or.inl ⟨by rfl, ?_⟩) (by assumption) ?_
              rotate_left
              first | (focus ((intro w hSw; (try dsimp only at hSw); go_simp); (try with_reducible rfl); done)) | fail
              try simp only [Act.put, List.getElem_toArray, List.getElem_cons_zero, List.getElem_cons_succ, List.setIfInBounds_toArray, List.set_cons_zero, List.set_cons_succ]
              refine wpAnyH_take (i := 14) (v := ?_) rfl (by kernel_rfl) (by kernel_rfl) (by kernel_rfl) (fun _ _ _ h => h) (Or.inl ⟨by rfl, ?_⟩) (by assumption) ?_
              rotate_left
              first | (focus ((intro w hSw; (try dsimp only at hSw); go_simp); (try with_reducible rfl); done)) | fail
              try simp only [Act.put, List.getElem_toArray, List.getElem_cons_zero, List.getElem_cons_succ, List.setIfInBounds_toArray, List.set_cons_zero, List.set_cons_succ]
              refine wpAnyH_done (by kernel_rfl) ?_ _
              have HB6 := Lib.hid (HB.out.1.drew.trans (below_of_le b6 (show N ≤ w5.heap.size by omega)))
              clear b6 hHeld
              go_wp2
              go_ret
              exact ⟨ret_int hE.out.symm, HB6.out⟩
            · have hnx := Lib.hid (show chkG none L = chkG (prevA L (j' + 1 + 1)) (L.drop (j' + 1 + 1)) by rw [hst3.out]; rfl)
              have hal' : decide (0 ≤ z) = false := by rw [hal]; rfl
              clear hal
              go_wp2_with fail
              refine wp_region_held_drew (S := (fun W => W.cell? ⟨P, 0, none⟩ = some (.int .i64 d) ∧ W.cell? ⟨P, 1, none⟩ = some (.int .i64 i) ∧ W.cell? ⟨b0, o0 + j' * 3, none⟩ = some (.int .i64 y1) ∧ W.cell? ⟨b0, o0 + j' * 3 + 1, none⟩ = some (.int .i64 y2))) (by kernel_rfl) ?_ (fun hHeld => ?_)
              · (try dsimp only); exact ⟨HB.out.2.1, HB.out.2.2.1, HL5.out.1, HL5.out.2⟩
              refine wpAnyH_take (i := 0) (v := ?_) rfl (by kernel_rfl) (by kernel_rfl) (by kernel_rfl) (fun _ _ _ h => h) (Or.inl ⟨by rfl, ?_⟩) (by assumption) ?_
              rotate_left
              first | (focus ((intro w hSw; (try dsimp only at hSw); go_simp); (try with_reducible rfl); done)) | fail
              try simp only [Act.put, List.getElem_toArray, List.getElem_cons_zero, List.setIfInBounds_toArray, List.set_cons_zero, List.set_cons_succ]
              refine wpAnyH_take (i := 1) (v := ?_) rfl (by kernel_rfl) (by kernel_rfl) (by kernel_rfl) (fun _ _ _ h => h) (Or.inl ⟨by rfl, ?_⟩) (by assumption) ?_
              rotate_left
              first | (focus ((intro w hSw; (try dsimp only at hSw); go_simp); (try with_reducible rfl); done)) | fail
              try simp only [Act.put, List.getElem_toArray, List.getElem_cons_zero, List.getElem_cons_succ, List.setIfInBounds_toArray, List.set_cons_zero, List.set_cons_succ]
              refine wpAnyH_take (i := 2) (v := ?_) rfl (by kernel_rfl) (by kernel_rfl) (by kernel_rfl) (fun _ _ _ h => h) (Or.inl ⟨by rfl, ?_⟩) (by assumption) ?_
              rotate_left
              first | (focus ((intro w hSw; (try dsimp only at hSw); go_simp); (try with_reducible rfl); done)) | fail
              try simp only [Act.put, List.getElem_toArray, List.getElem_cons_zero, List.getElem_cons_succ, List.setIfInBounds_toArray, List.set_cons_zero, List.set_cons_succ]
              refine wpAnyH_take (i := 3) (v := ?_) rfl (by kernel_rfl) (by kernel_rfl) (by kernel_rfl) (fun _ _ _ h => h) (Or.inl ⟨by rfl, ?_⟩) (by assumption) ?_
              rotate_left
              first | (focus ((intro w hSw; (try dsimp only at hSw); go_simp); (try with_reducible rfl); done)) | fail
              try simp only [Act.put, List.getElem_toArray, List.getElem_cons_zero, List.getElem_cons_succ, List.setIfInBounds_toArray, List.set_cons_zero, List.set_cons_succ]
              refine wpAnyH_take (i := 4) (v := ?_) rfl (by kernel_rfl) (by kernel_rfl) (by kernel_rfl) (fun _ _ _ h => h) (Or.inl ⟨by rfl, ?_⟩) (by assumption) ?_
              rotate_left
              first | (focus ((intro w hSw; (try dsimp only at hSw); go_simp); (try with_reducible rfl); done)) | fail
              try simp only [Act.put, List.getElem_toArray, List.getElem_cons_zero, List.getElem_cons_succ, List.setIfInBounds_toArray, List.set_cons_zero, List.set_cons_succ]
              refine wpAnyH_take (i := 5) (v := ?_) rfl (by kernel_rfl) (by kernel_rfl) (by kernel_rfl) (fun _ _ _ h => h) (Or.inl ⟨by rfl, ?_⟩) (by assumption) ?_
              rotate_left
              first | (focus ((intro w hSw; (try dsimp only at hSw); go_simp); (try with_reducible rfl); done)) | fail
              try simp only [Act.put, List.getElem_toArray, List.getElem_cons_zero, List.getElem_cons_succ, List.setIfInBounds_toArray, List.set_cons_zero, List.set_cons_succ]
              refine wpAnyH_take (i := 6) (v := ?_) rfl (by kernel_rfl) (by kernel_rfl) (by kernel_rfl) (fun _ _ _ h => h) (Or.inl ⟨by rfl, ?_⟩) (by assumption) ?_
              rotate_left
              first | (focus ((intro w hSw; (try dsimp only at hSw); go_simp); (try with_reducible rfl); done)) | fail
              try simp only [Act.put, List.getElem_toArray, List.getElem_cons_zero, List.getElem_cons_succ, List.setIfInBounds_toArray, List.set_cons_zero, List.set_cons_succ]
              refine wpAnyH_take (i := 7) (v := ?_) rfl (by kernel_rfl) (by kernel_rfl) (by kernel_rfl) (fun _ _ _ h => h) (Or.inl ⟨by rfl, ?_⟩) (by assumption) ?_
              rotate_left
              first | (focus ((intro w hSw; (try dsimp only at hSw); go_simp); (try with_reducible rfl); done)) | fail
              try simp only [Act.put, List.getElem_toArray, List.getElem_cons_zero, List.getElem_cons_succ, List.setIfInBounds_toArray, List.set_cons_zero, List.set_cons_succ]
              refine wpAnyH_take (i := 8) (v := ?_) rfl (by kernel_rfl) (by kernel_rfl) (by kernel_rfl) (fun _ _ _ h => h) (Or.inl ⟨by rfl, ?_⟩) (by assumption) ?_
              rotate_left
              first | (focus ((intro w hSw; (try dsimp only at hSw); go_simp); (try with_reducible rfl); done)) | fail
              try simp only [Act.put, List.getElem_toArray, List.getElem_cons_zero, List.getElem_cons_succ, List.setIfInBounds_toArray, List.set_cons_zero, List.set_cons_succ]
              refine wpAnyH_take (i := 9) (v := ?_) rfl (by kernel_rfl) (by kernel_rfl) (by kernel_rfl) (fun _ _ _ h => h) (Or.inl ⟨by rfl, ?_⟩) (by assumption) ?_
              rotate_left
              first | (focus ((intro w hSw; (try dsimp only at hSw); go_simp); (try with_reducible rfl); done)) | fail
              try simp only [Act.put, List.getElem_toArray, List.getElem_cons_zero, List.getElem_cons_succ, List.setIfInBounds_toArray, List.set_cons_zero, List.set_cons_succ]
              refine wpAnyH_take (i := 10) (v := ?_) rfl (by kernel_rfl) (by kernel_rfl) (by kernel_rfl) (fun _ _ _ h => h) (Or.inl ⟨by rfl, ?_⟩) (by assumption) ?_
              rotate_left
              first | (focus ((intro w hSw; (try dsimp only at hSw); go_simp); (try with_reducible rfl); done)) | fail
              try simp only [Act.put, List.getElem_toArray, List.getElem_cons_zero, List.getElem_cons_succ, List.setIfInBounds_toArray, List.set_cons_zero, List.set_cons_succ]
              refine wpAnyH_ready (rs := [11]) (by kernel_rfl) (by simp) ?_
              refine AllReadyH.cons rfl (fun K hK => ?_) AllReadyH.nil
              go_simp
              refine (CY.out _).mono ?_; rintro e w6 ⟨rfl, b6⟩
              go_wp2_with fail
              refine hK.out _ _ ?_ (fun hHeld => ?_)
              · (try dsimp only); exact ⟨(b6.cell (by show P < w5.heap.size; omega)).trans hHeld.1, (b6.cell (by show P < w5.heap.size; omega)).trans hHeld.2.1, (b6.cell (by show b0 < w5.heap.size; omega)).trans hHeld.2.2.1, (b6.cell (by show b0 < w5.heap.size; omega)).trans hHeld.2.2.2⟩
              clear hK K
              try simp only [Act.put, List.getElem_toArray, List.getElem_cons_zero, List.getElem_cons_succ, List.setIfInBounds_toArray, List.set_cons_zero, List.set_cons_succ]
              refine wpAnyH_take (i := 12) (v := ?_) rfl (by kernel_rfl) (by kernel_rfl) (by kernel_rfl) (fun _ _ _ h => h) (Or.inl ⟨by rfl, ?_⟩) (by assumption) ?_
              rotate_left
              first | (focus ((intro w hSw; (try dsimp only at hSw); go_simp); (try with_reducible rfl); done)) | fail
              try simp only [Act.put, List.getElem_toArray, List.getElem_cons_zero, List.getElem_cons_succ, List.setIfInBounds_toArray, List.set_cons_zero, List.set_cons_succ]
              refine wpAnyH_take (i := 13) (v := ?_) rfl (by kernel_rfl) (by kernel_rfl) (by kernel_rfl) (fun _ _ _ h => h) (Or.inl ⟨by rfl, ?_⟩) (by assumption) ?_
              rotate_left
              first | (focus ((intro w hSw; (try dsimp only at hSw); go_simp); (try with_reducible rfl); done)) | fail
              try simp only [Act.put, List.getElem_toArray, List.getElem_cons_zero, List.getElem_cons_succ, List.setIfInBounds_toArray, List.set_cons_zero, List.set_cons_succ]
              refine wpAnyH_take (i := 14) (v := ?_) rfl (by kernel_rfl) (by kernel_rfl) (by kernel_rfl) (fun _ _ _ h => h) (Or.inl ⟨by rfl, ?_⟩) (by assumption) ?_
              rotate_left
              first | (focus ((intro w hSw; (try dsimp only at hSw); go_simp); (try with_reducible rfl); done)) | fail
              try simp only [Act.put, List.getElem_toArray, List.getElem_cons_zero, List.getElem_cons_succ, List.setIfInBounds_toArray, List.set_cons_zero, List.set_cons_succ]
              refine wpAnyH_done (by kernel_rfl) ?_ _
              have HB6 := Lib.hid (HB.out.1.drew.trans (below_of_le b6 (show N ≤ w5.heap.size by omega)))
              clear b6 hHeld
              go_wp2
              go_roundw
              case rel => exact ⟨j' + 1 + 1, by omega, by go_num, hnx.out, HB6.out⟩
              case measure => simp [intOf]; omega
      · have hj' : j = n := by omega
        subst hj'
        have hE := Lib.hid (show chkG none L = 0 by
          rw [HM.out.1, List.drop_eq_nil_of_le (by have := HL.out; omega)]
          cases prevA L j <;> rfl)
        go_wp2
        go_ret
        exact ⟨ret_int hE.out.symm, HM.out.2⟩
end Go.Proofs.YtpakmeegldgjmaaGreat
/- Layer 17 (vector): Of. -/
namespace Go.Proofs.YtpakmeegldgjmaaGreat
open Go.RowKit
set_option linter.unusedVariables false
set_option maxRecDepth 100000
attribute [local go_sem ↓] Go.wp_at_zero Go.wp_at_succ

theorem Vw.sub {M : List Dt} (h : Vw M) (j : Nat) : Vw (M.take j) := ⟨List.Pairwise.sublist (List.take_sublist _ _) h.1, fun x hx => h.2 x (List.mem_of_mem_take hx)⟩
end Go.Proofs.YtpakmeegldgjmaaGreat
/- Merged: Z1, Z2, Z3, Z4. -/
/- Layer 18 (seen): sets in memory; New, Has. -/
namespace Go.Proofs.YtpakmeegldgjmaaGreat
open Go.RowKit
set_option linter.unusedVariables false
set_option maxRecDepth 100000
attribute [local go_sem ↓] Go.wp_at_zero Go.wp_at_succ

section
variable {w w' : World} {s v b g : Nat} {M B : List Dt}
end
theorem Sw.nil : Sw [] [] := ⟨Vw.nil, List.Pairwise.nil, by simp⟩
/-- Has a set a dot? -/
def hasS (M B : List Dt) (d : Dt) : Bool := decide (d ∈ B) || vhasB M d
theorem hasS_iff (M B : List Dt) (d : Dt) : hasS M B d = true ↔ inS M B d := by
  unfold hasS inS vhasB
  simp only [Bool.or_eq_true, Bool.and_eq_true, decide_eq_true_eq]
end Go.Proofs.YtpakmeegldgjmaaGreat
/- Layer 18 (seen): fill. -/
namespace Go.Proofs.YtpakmeegldgjmaaGreat
open Go.RowKit
set_option linter.unusedVariables false
set_option maxRecDepth 100000
attribute [local go_sem ↓] Go.wp_at_zero Go.wp_at_succ

theorem Sw.ok {M B : List Dt} (h : Sw M B) {d : Dt} (hd : d ∈ B) : dtOk d := by
  have := (rightD_iff d).1 (h.right d hd)
  exact ⟨wf_of (by omega) (by omega), wf_of (by omega) (by omega), wf_of (by omega) (by omega)⟩
theorem C2.blk {N : Nat} {d i : Int} {W W' : World} (h : C2 N d i W) (hb : W'.heap[N]? = W.heap[N]?) : C2 N d i W' :=
  ⟨(World.cell?_of_block hb).trans h.1, (World.cell?_of_block hb).trans h.2⟩
theorem C3.of {P : Nat} {t : TypeId} {x y z : Int} {w : World} (h : Whole w P t #[.int .i64 x, .int .i64 y, .int .i64 z]) : C3 P x y z w :=
  ⟨by rw [h.cell]; rfl, by rw [h.cell]; rfl, by rw [h.cell]; rfl⟩
end Go.Proofs.YtpakmeegldgjmaaGreat
/- Layer 18 (seen): Add, sorted, Base, Beyond. -/
namespace Go.Proofs.YtpakmeegldgjmaaGreat
open Go.RowKit
set_option linter.unusedVariables false
set_option maxRecDepth 100000
attribute [local go_sem ↓] Go.wp_at_zero Go.wp_at_succ

theorem SetL.has {M B L : List Dt} (h : SetL M B L) (d : Dt) : hasS M B d = decide (d ∈ L) := by
  rw [Bool.eq_iff_iff, hasS_iff, decide_eq_true_eq, h.mem]
theorem SetL.len {M B L : List Dt} (h : SetL M B L) : B.length ≤ L.length := by
  have := h.beyond
  rw [← this]
  exact List.length_filter_le _ _
end Go.Proofs.YtpakmeegldgjmaaGreat
/- Layer 18 (seen): Add of nil, sorted, Base, Beyond. -/
namespace Go.Proofs.YtpakmeegldgjmaaGreat
open Go.RowKit
set_option linter.unusedVariables false
set_option maxRecDepth 100000
attribute [local go_sem ↓] Go.wp_at_zero Go.wp_at_succ

end Go.Proofs.YtpakmeegldgjmaaGreat
/- Merged: Z5, Z6, Z7. -/
/- Layer 18, the document's sets: Add. -/
namespace Go.Proofs.YtpakmeegldgjmaaGreat
open Go.RowKit
set_option linter.unusedVariables false
set_option maxRecDepth 100000
attribute [local go_sem ↓] Go.wp_at_zero Go.wp_at_succ

end Go.Proofs.YtpakmeegldgjmaaGreat
/- Layer 18, the document's sets: up, Base, Beyond. -/
namespace Go.Proofs.YtpakmeegldgjmaaGreat
open Go.RowKit
set_option linter.unusedVariables false
set_option maxRecDepth 100000
attribute [local go_sem ↓] Go.wp_at_zero Go.wp_at_succ

theorem appD (w : World) (base : Nat) (A : Option Addr) (n c : Nat) (xs : List Value) (hown : Own w base 50 3 A n c xs) (B : Nat) (A' : Option Addr) (m c' : Nat) (news : List Value) (hr : Rd w B 3 A' m news) (h1 : ∀ u ∈ news, u.oneCell' = true) (hlen : n + m ≤ 4000000000) (hbase : base ≤ w.heap.size) :
    ∃ A2 c2 w', (Builtin.append_ #[57, 57] 57 #[.slice A n c, .slice A' m c']).run Tryz.prog w = .ok (.slice A2 (n + m) c2) w' ∧ Own w' base 50 3 A2 (n + m) c2 (xs ++ news) ∧ w.grownBy w' (bl A) ∧ Near w A A2 := by
  obtain ⟨i0, hi, hz0, hz1, hz2⟩ := info_parts info_dt
  exact run_append_rdn (P := Tryz.prog) w 57 57 base 50 i0 (.agg #[.int .i64 0, .int .i64 0, .int .i64 0]) 3 24 Tryz.underlying57 hi hz0 hz1 hz2 rfl (by decide) (by decide) A n c xs hown B A' m c' news hr h1 (by omega) hbase
end Go.Proofs.YtpakmeegldgjmaaGreat
/- Layer 18: awake, is, made. -/
namespace Go.Proofs.YtpakmeegldgjmaaGreat
open Go.RowKit
set_option linter.unusedVariables false
set_option maxRecDepth 100000
attribute [local go_sem ↓] Go.wp_at_zero Go.wp_at_succ

end Go.Proofs.YtpakmeegldgjmaaGreat
/- Layer 18 (seen), Join: the plain facts, and what its loops keep. -/
namespace Go.Proofs.YtpakmeegldgjmaaGreat
open Go.RowKit
set_option linter.unusedVariables false
set_option maxRecDepth 100000
attribute [local go_sem ↓] Go.wp_at_zero Go.wp_at_succ

/-- What a set has once another one's base is raised in it. -/
theorem inS_join {M B MO : List Dt} (hv : Vw M) (ho : Vw MO) (d : Dt) : inS (rjoin M MO) B d ↔ inS M B d ∨ (rightD d = true ∧ d.2 ≤ mget MO d.1) := by
  unfold inS
  rw [mget_join hv ho.1 (fun x hx => .inl (ho.2 x hx))]
  constructor
  · rintro (h | ⟨h1, h2⟩)
    · exact .inl (.inl h)
    · by_cases h3 : d.2 ≤ mget M d.1
      · exact .inl (.inr ⟨h1, h3⟩)
      · exact .inr ⟨h1, by omega⟩
  · rintro ((h | ⟨h1, h2⟩) | ⟨h1, h2⟩)
    · exact .inl h
    · exact .inr ⟨h1, by omega⟩
    · exact .inr ⟨h1, by omega⟩
/-- The exceptions that the base has not. -/
def cutB (M B : List Dt) : List Dt := B.filter fun d => !vhasB M d
theorem inS_cut (M B : List Dt) (hB : ∀ d ∈ B, rightD d = true) (d : Dt) : inS M (cutB M B) d ↔ inS M B d := by
  unfold inS cutB
  rw [List.mem_filter]
  constructor
  · rintro (⟨h, _⟩ | h)
    · exact .inl h
    · exact .inr h
  · rintro (h | h)
    · cases hv : vhasB M d
      · exact .inl ⟨h, by simp⟩
      · unfold vhasB at hv
        simp only [Bool.and_eq_true, decide_eq_true_eq] at hv
        exact .inr hv
    · exact .inr h
/-- What filling keeps. -/
structure FI (M1 B2 T : List Dt) (j : Nat) (M B : List Dt) : Prop where
  dis : Dis M B
  same : ∀ d, inS M B d ↔ inS M1 B2 d
  sub : ∀ d ∈ B, d ∈ B2
  good : ∀ d ∈ T.take j, Good M B d.1
theorem FI.start {M1 B2 T : List Dt} (h : Dis M1 B2) : FI M1 B2 T 0 M1 B2 := ⟨h, fun _ => Iff.rfl, fun _ h => h, by simp⟩
theorem FI.step {M1 B2 T M B M' B' : List Dt} {j : Nat} {x : Dt} (h : FI M1 B2 T j M B) (hx : T[j]? = some x) (hf : FillR M B x.1 M' B') (hg : Good M' B' x.1) : FI M1 B2 T (j + 1) M' B' := by
  refine ⟨hf.dis h.dis, fun d => (hf.same d).trans (h.same d), fun d hd => h.sub d (hf.sub d hd), fun d hd => ?_⟩
  by_cases e : d.1 = x.1
  · rw [e]; exact hg
  · rw [List.take_add_one, hx, List.mem_append] at hd
    rcases hd with hd | hd
    · exact hf.good e (h.good d hd)
    · simp at hd
      subst hd
      exact absurd rfl e
theorem FI.all {M1 B2 M B : List Dt} {j : Nat} (h : FI M1 B2 B2 j M B) (hj : B2.length ≤ j) (a : Ac) : Good M B a := by
  intro hm
  have h1 := h.sub _ hm
  exact h.good (a, mget M a + 1) (by rw [List.take_of_length_le hj]; exact h1) hm
structure FG (M1 B2 M B : List Dt) : Prop where
  dis : Dis M B
  same : ∀ d, inS M B d ↔ inS M1 B2 d
  good : ∀ a, Good M B a
theorem FG.step {M1 B2 M B M' B' : List Dt} {a : Ac} (h : FG M1 B2 M B) (hf : FillR M B a M' B') (hg : Good M' B' a) : FG M1 B2 M' B' := by
  refine ⟨hf.dis h.dis, fun d => (hf.same d).trans (h.same d), fun c => ?_⟩
  by_cases e : c = a
  · rw [e]; exact hg
  · exact hf.good e (h.good c)
/-- The dots of a set that another one's base is raised in. -/
def midL (M1 B2 L O : List Dt) : List Dt := (dsort (L ++ O)).filter fun d => hasS M1 B2 d
theorem FG.setL {M B L MO BO LO M4 B4 : List Dt} (h : SetL M B L) (ho : SetL MO BO LO) (hs : Sw M4 B4) (hf : FG (rjoin M MO) (cutB (rjoin M MO) B) M4 B4) : SetL M4 B4 (midL (rjoin M MO) (cutB (rjoin M MO) B) L LO) := by
  refine ⟨hs, hf.dis, hf.good, ⟨(srt_dsort _).filter _, fun x hx => ?_⟩, fun d => ?_⟩
  · have := (mem_dsort _ _).1 (List.mem_filter.1 hx).1
    rcases List.mem_append.1 this with h1 | h1
    · exact h.dw.2 x h1
    · exact ho.dw.2 x h1
  · unfold midL
    rw [List.mem_filter, mem_dsort, hasS_iff, hf.same]
    refine ⟨fun h => h.2, fun hd => ⟨?_, hd⟩⟩
    rw [inS_cut _ _ h.sw.right, inS_join h.sw.vw ho.sw.vw] at hd
    rw [List.mem_append]
    rcases hd with hd | hd
    · exact .inl ((h.mem d).2 hd)
    · exact .inr ((ho.mem d).2 (.inr hd))
section
variable {w W W' : World} {s v b g so vo bo go : Nat} {MO BO T M B : List Dt} {A : Option Addr}
end
end Go.Proofs.YtpakmeegldgjmaaGreat
/- Layer 18 (seen): Missing, by program and by the document. -/
namespace Go.Proofs.YtpakmeegldgjmaaGreat
open Go.RowKit
set_option linter.unusedVariables false
set_option maxRecDepth 100000
attribute [local go_sem ↓] Go.wp_at_zero Go.wp_at_succ

/-- One dot appended; the result lies in the same block, or in a new one. -/
theorem app1n (w : World) (base : Nat) (A : Option Addr) (n c : Nat) (L : List Dt) (hl : L.length = n) (hown : Own w base 50 3 A n c (dts L)) (x : Dt) (hlen : n ≤ 3000000000) (hbase : base ≤ w.heap.size) :
    ∃ A2 c2 w', (Builtin.append_ #[57, 57] 57 #[.slice A n c, .slice (some ⟨w.heap.size, 0, none⟩) 1 1]).run Tryz.prog (w.alloc (.cells #[.int .i64 x.1.1, .int .i64 x.1.2, .int .i64 x.2] 50)) = .ok (.slice A2 (n + 1) c2) w' ∧ Own w' base 50 3 A2 (n + 1) c2 (dts (L ++ [x])) ∧
      Ch (fun k => some k = bl A) w w' ∧ Below base w w' ∧ ∀ k, bl A2 = some k → bl A = some k ∨ w.heap.size ≤ k := by
  have hr : Rd (w.alloc (.cells #[.int .i64 x.1.1, .int .i64 x.1.2, .int .i64 x.2] 50)) (w.heap.size + 1) 3 (some ⟨w.heap.size, 0, none⟩) 1 (dtC x) := rd_fresh3 w x _
  obtain ⟨A2, c2, w', q, o, g, nr⟩ := appD (w.alloc (.cells #[.int .i64 x.1.1, .int .i64 x.1.2, .int .i64 x.2] 50)) base A n c (dts L) (hown.alloc _) (w.heap.size + 1) _ 1 1 (dtC x) hr (dtC_one x) (by omega) (by simp; omega)
  refine ⟨A2, c2, w', q, ?_, ?_, ?_, fun k hk => ?_⟩
  · have e : dts (L ++ [x]) = dts L ++ dtC x := by simp [dts]
    rw [e]; exact o
  · exact (Ch.alloc_ _ w _).trans (grown_ch g) (fun k _ h => h)
  · exact ((Below.refl base w).alloc hbase _).grown g (by simp; omega) hown.bl_lo
  · rcases nr with h | h
    · exact .inl (by rw [← h]; exact hk)
    · rw [h] at hk
      simp at hk
      exact .inr (by omega)
section
variable {w W W' : World} {N : Nat} {p q : Option Addr} {M B MO BO : List Dt} {A : Option Addr} {T : List Dt} {A3 : Option Addr} {c3 : Nat} {S : List Dt}
end
end Go.Proofs.YtpakmeegldgjmaaGreat
/- Layers 17, 18: Put of marks and of a set, by program. -/
namespace Go.Proofs.YtpakmeegldgjmaaGreat
open Go.RowKit
set_option linter.unusedVariables false
set_option maxRecDepth 100000
attribute [local go_sem ↓] Go.wp_at_zero Go.wp_at_succ

def dP (x : Dt) : List UInt8 := dotP x.1.1 x.1.2 x.2
def dsP (L : List Dt) : List UInt8 := L.flatMap dP
/-- A number of dots and the dots, packed. -/
def nP (L : List Dt) : List UInt8 := vput L.length ++ dsP L
theorem dP_len (x : Dt) : (dP x).length ≤ 30 := by
  unfold dP dotP
  split
  · rename_i h
    simp [dotB, actB] at h
    have h1 := vput_le (x := x.1.1.toNat) (by omega)
    have h2 := vput_le (x := x.1.2.toNat) (by omega)
    have h3 := vput_le (x := x.2.toNat) (by omega)
    simp; omega
  · simp
theorem dsP_len (L : List Dt) : (dsP L).length ≤ 30 * L.length := by
  induction L with
  | nil => simp [dsP]
  | cons x r ih =>
    have h := dP_len x
    have e : dsP (x :: r) = dP x ++ dsP r := by simp [dsP]
    rw [e, List.length_append, List.length_cons]
    omega
theorem dsP_step {L : List Dt} {j : Nat} {x : Dt} (hx : L[j]? = some x) : dsP (L.take (j + 1)) = dsP (L.take j) ++ dP x := by
  rw [List.take_add_one, hx]; simp [dsP]
theorem nP_len (L : List Dt) (h : L.length ≤ 1000000) : (nP L).length ≤ 10 + 30 * L.length := by
  have h1 := vput_le (x := L.length) (by omega)
  have h2 := dsP_len L
  unfold nP
  rw [List.length_append]
  omega
theorem MsAt.wst {w w' : World} {b : Nat} {A A1 Am : Option Addr} {L : List Dt} (h : MsAt w Am L) (st : WStep w w' b A A1) (far : ∀ k, bl Am = some k → k ≠ b ∧ bl A ≠ some k) : MsAt w' Am L :=
  h.ch st.1 (fun k hk e => by have := far k hk; rcases e with e | e; exact this.1 e; exact this.2 e)
theorem MsAt.wst' {w w' : World} {b : Nat} {A A1 Am : Option Addr} {L : List Dt} (h : MsAt w Am L) (st : WStep w w' b A A1) (far : ∀ k, bl Am = some k → L ≠ [] → k ≠ b ∧ bl A ≠ some k) : MsAt w' Am L := by
  cases L with
  | nil => exact ⟨rfl, fun hn => absurd hn (by simp)⟩
  | cons x r => exact h.wst st (fun k hk => far k hk (by simp))
/-- What a Put of marks leaves. -/
def PutE (w : World) (base b : Nat) (A : Option Addr) (l : List UInt8) (r : Value) (e : Ending) (w' : World) : Prop :=
  ∃ A' c', e = .returned r ∧ Wr w' base b A' c' l ∧ WStep w w' b A A'
set_option maxHeartbeats 2000000 in
theorem vcput_any (w : World) (base b : Nat) (A : Option Addr) (c : Nat) (l : List UInt8) (Am : Option Addr) (cm : Nat) (L : List Dt) (h : Wr w base b A c l) (hbase : base ≤ w.heap.size) (hl : l.length ≤ 100000) (hm : MsAt w Am L)
    (far : ∀ k, bl Am = some k → L ≠ [] → k ≠ b ∧ bl A ≠ some k) (hn : L.length ≤ 1000) (hc : chkE L = 0) :
    Calls Tryz.prog 22 #[.pointer (some ⟨b, 0, none⟩), .slice Am L.length cm] w (PutE w base b A (l ++ nP L) (.int .i64 0)) := by
  have C0 := Lib.hid (vccheck_any w Am cm L hm (by omega))
  rw [hc] at C0
  have CN := Lib.hid (fun (W : World) (h : Wr W base b A c l) (hbase : base ≤ W.heap.size) => wnum_any W base b A c l L.length h hbase (by omega) (by omega))
  have CD := Lib.hid (fun (x : Dt) (W : World) (A : Option Addr) (c : Nat) (l : List UInt8) (h : Wr W base b A c l) (hbase : base ≤ W.heap.size) (hl : l.length ≤ 900000) => dput_any x.1.1 x.1.2 x.2 W base b A c l h hbase hl)
  have hvl := Lib.hid (vput_le (x := L.length) (by omega))
  have hnP : nP L = vput L.length ++ dsP L := rfl
  rw [hnP]
  have H0 := Lib.hid (And.intro h (And.intro hm hbase))
  have HF := Lib.hid far
  generalize hlen : L.length = n at *
  have HLn := Lib.hid hlen
  have y1 : IntKind.u64.wrap (n : Int) = (n : Int) := by rw [IntKind.wrap_u64]; omega
  unfold dotV at CD
  clear h hm far hc hnP hlen
  go_enter Tryz.func22, Tryz.ntmps22
  go_wp2_with fail
  refine (C0.out).mono ?_; rintro e w1 ⟨rfl, b1⟩
  have H1 := Lib.hid (And.intro (H0.out.1.below b1) (And.intro (H0.out.2.1.up b1) (And.intro (Nat.le_trans H0.out.2.2 b1.size) (WStep.of_below b1 (WStep.refl w1 b A)))))
  clear b1 H0
  go_wp2_with fail
  refine (CN.out _ H1.out.1 H1.out.2.2.1).mono ?_; rintro e w2 ⟨A2, c2, rfl, hw2, st2⟩
  have H2 := Lib.hid (And.intro hw2 (And.intro (H1.out.2.1.wst' st2 HF.out) (And.intro (Nat.le_trans H1.out.2.2.1 st2.1.size) (H1.out.2.2.2.trans st2))))
  have hf2 := Lib.hid (show ∀ k, bl Am = some k → L ≠ [] → k < w1.heap.size → k ≠ b ∧ bl A2 ≠ some k from fun k hk hne hlt => ⟨(HF.out k hk hne).1, fun e => by
    rcases st2.2 k e with h | h
    · exact (HF.out k hk hne).2 h
    · omega⟩)
  have hm1 := H1.out.2.1
  have hlo := Lib.hid (show ∀ j x, L[j]? = some x → ∀ k, bl Am = some k → k < w1.heap.size from fun j x hx k hk => by
    obtain ⟨b0, o0, hA, hb0, _⟩ := Ds.at_ (show Ds w1 w1.heap.size Am L from hm1) hx
    subst hA
    simp [bl] at hk
    omega)
  clear hw2 st2 H1 hm1
  go_wp2_with fail
  go_loopw [20] (fun i wr => ∃ (j : Nat) (A3 : Option Addr) (c3 : Nat), j ≤ n ∧ i = .int .i64 j ∧ Wr wr base b A3 c3 ((l ++ vput n) ++ dsP (L.take j)) ∧ WStep w2 wr b A2 A3 ∧ base ≤ wr.heap.size) (fun i _ => n - (intOf i).toNat)
  case atStart => exact ⟨0, A2, c2, by omega, rfl, by have := H2.out.1; simpa [dsP] using this, WStep.refl _ _ _, H2.out.2.2.1⟩
  case round =>
    obtain ⟨j, A3, c3, hj, rfl, hW, hst, hbs⟩ := hrel
    have HI := Lib.hid (And.intro hW (And.intro hst hbs))
    clear hW hst hbs
    by_cases hlt : j < n
    · obtain ⟨x, hx⟩ : ∃ x, L[j]? = some x := ⟨L[j]'(by have := HLn.out; omega), List.getElem?_eq_getElem _⟩
      have hmr : MsAt wr Am L := H2.out.2.1.wst HI.out.2.1 (fun k hk => hf2.out k hk (by rintro rfl; cases hx) (hlo.out j x hx k hk))
      obtain ⟨b0, o0, hA, hb0, k0, k1, k2⟩ := Ds.at_ (show Ds wr wr.heap.size Am L from hmr) hx
      have htk := Lib.hid (dsP_step hx)
      have hln := Lib.hid (show ((l ++ vput n) ++ dsP (L.take j)).length ≤ 900000 from by
        have h1 := dsP_len (L.take j)
        have h2 := List.length_take_le j L
        have h3 := hvl.out
        have h4 := HLn.out
        rw [List.length_append, List.length_append]
        omega)
      have CX := Lib.hid (fun W A c h hb hl => CD.out x W A c ((l ++ vput n) ++ dsP (L.take j)) h hb hl)
      obtain ⟨⟨d, i⟩, q⟩ := x
      simp only at k0 k1 k2 CX
      clear hx hmr
      have H4 := Lib.hid (And.intro (HI.out.1.below ((Below.refl wr.heap.size wr).alloc (Nat.le_refl _) (.cells #[.int .i64 d, .int .i64 i, .int .i64 q] 111))) (And.intro (HI.out.2.1.below ((Below.refl wr.heap.size wr).alloc (Nat.le_refl _) (.cells #[.int .i64 d, .int .i64 i, .int .i64 q] 111))) (show base ≤ (wr.alloc (.cells #[.int .i64 d, .int .i64 i, .int .i64 q] 111)).heap.size by have := HI.out.2.2; simp; omega)))
      subst hA
      go_wp2_with fail
      generalize (wr.alloc (.cells #[.int .i64 d, .int .i64 i, .int .i64 q] 111)) = W4 at *
      refine (CX.out _ _ _ H4.out.1 H4.out.2.2 hln.out).mono ?_; rintro e w5 ⟨A5, c5, rfl, hw5, st5⟩
      have H5 := Lib.hid (And.intro hw5 (And.intro (H4.out.2.1.trans st5) (Nat.le_trans H4.out.2.2 st5.1.size)))
      clear hw5 st5 H4
      go_wp2
      go_roundw
      case rel => exact ⟨j + 1, A5, c5, by omega, by go_num, by rw [htk.out, ← List.append_assoc]; exact H5.out.1, H5.out.2.1, H5.out.2.2⟩
      case measure => simp [intOf]; omega
    · have hj' : n = j := by omega
      subst hj'
      have HE := Lib.hid (show PutE w base b A (l ++ (vput n ++ dsP L)) (.int .i64 0) (.returned (.int .i64 0)) wr from by
        have h1 := HI.out.1
        rw [List.take_of_length_le (by have := HLn.out; omega), List.append_assoc] at h1
        exact ⟨A3, c3, rfl, h1, H2.out.2.2.2.trans HI.out.2.1⟩)
      go_wp2
      go_ret
      exact HE.out
end Go.Proofs.YtpakmeegldgjmaaGreat
/- Layers 17, 18: the document's Put of marks and of a set. -/
namespace Go.Proofs.YtpakmeegldgjmaaGreat
open Go.RowKit
set_option linter.unusedVariables false
set_option maxRecDepth 100000
attribute [local go_sem ↓] Go.wp_at_zero Go.wp_at_succ

/-- 'append' on bytes, as a run. -/
theorem appB (w : World) (base : Nat) (A : Option Addr) (c : Nat) (l : List UInt8) (hown : Own w base 5 1 A l.length c (bv l)) (B : Nat) (A' : Option Addr) (c' : Nat) (m : List UInt8) (hr : Rd w B 1 A' m.length (bv m)) (hlen : l.length + m.length ≤ 1000000000) (hbase : base ≤ w.heap.size) :
    ∃ A2 c2 w', (Builtin.append_ #[24, 24] 24 #[.slice A l.length c, .slice A' m.length c']).run Tryz.prog w = .ok (.slice A2 (l ++ m).length c2) w' ∧ Own w' base 5 1 A2 (l ++ m).length c2 (bv (l ++ m)) ∧ Below base w w' ∧ Ch (fun k => some k = bl A) w w' ∧ ∀ k, bl A2 = some k → bl A = some k ∨ w.heap.size ≤ k := by
  obtain ⟨i0, hi, hz0, hz1, hz2⟩ := info_parts Tryz.info_by
  obtain ⟨A2, c2, w', q, o, g, nr⟩ := run_append_rdn (P := Tryz.prog) w 24 24 base 5 i0 (.int .u8 0) 1 1 Tryz.underlying24 hi hz0 hz1 hz2 rfl (by decide) (by decide) A l.length c (bv l) hown B A' m.length c' (bv m) hr (bv_oneCell _) (by omega) hbase
  rw [← bv_append] at o
  rw [← List.length_append] at q o
  refine ⟨A2, c2, w', q, o, (Below.refl base w).grown g hbase hown.bl_lo, (grown_ch g).mono (fun k _ h => h), fun k hk => ?_⟩
  rcases nr with h | h
  · exact .inl (by rw [← h]; exact hk)
  · rw [h] at hk
    simp at hk
    exact .inr (by omega)
end Go.Proofs.YtpakmeegldgjmaaGreat
/- Layer 17 (vector): Get of marks that were packed; Put of marks that may not be. -/
namespace Go.Proofs.YtpakmeegldgjmaaGreat
open Go.RowKit
set_option linter.unusedVariables false
set_option maxRecDepth 100000
attribute [local go_sem ↓] Go.wp_at_zero Go.wp_at_succ

theorem Re.far {w w' : World} {b n c N : Nat} {A : Option Addr} {l : List UInt8} {er : Int} (h : Re w b A n c l er) (hb : Below N w w') (hN : b < N) : Re w' b A n c l er :=
  ⟨h.1.below hb hN, h.2.1.below (hb.mono (by omega)), h.2.2⟩
theorem Ch.belowN {S : Nat → Prop} {w w1 w2 : World} {N : Nat} (h : Ch S w w1) (b : Below N w1 w2) (hN : w.heap.size ≤ N) : Ch S w w2 :=
  h.trans (show Ch (fun k => N ≤ k) w1 w2 from ⟨b.os, b.tape, b.output, b.size, fun k _ hk => b.block k (by omega)⟩) (fun k hk hs => by omega)
theorem dsP_drop {L : List Dt} {j : Nat} {x : Dt} (hx : L[j]? = some x) : dsP (L.drop j) = dP x ++ dsP (L.drop (j + 1)) := by
  have : L.drop j = x :: L.drop (j + 1) := by
    have hlt : j < L.length := (List.getElem?_eq_some_iff.1 hx).1
    rw [List.drop_eq_getElem_cons hlt]
    rw [(List.getElem?_eq_some_iff.1 hx).2]
  rw [this]
  simp [dsP]
/-- What vector.Get leaves. -/
def GetE (w : World) (b : Nat) (L : List Dt) (R : List UInt8) (e : Ending) (w' : World) : Prop :=
  ∃ A' c' A n c, e = .returned (.slice A' L.length c') ∧ MsAt w' A' L ∧ (∀ k, bl A' = some k → w.heap.size ≤ k) ∧ Re w' b A n c R 0 ∧ Ch (fun k => k = b) w w'
set_option maxHeartbeats 4000000 in
theorem vcget_put (w : World) (b : Nat) (A : Option Addr) (n0 c : Nat) (L : List Dt) (R : List UInt8) (h : Re w b A n0 c (nP L ++ R) 0) (hv : Vw L) (hl : L.length ≤ 1000) :
    Calls Tryz.prog 36 #[.pointer (some ⟨b, 0, none⟩)] w (GetE w b L R) := by
  have hnP : nP L ++ R = vput L.length ++ (dsP L ++ R) := by unfold nP; rw [List.append_assoc]
  rw [hnP] at h
  have CN := Lib.hid (rnum_any w b A n0 c (vput L.length ++ (dsP L ++ R)) 0 4096 h)
  rw [rnumR_putx _ (by omega) (by omega)] at CN
  have CE := Lib.hid (fun (W : World) (A : Option Addr) (n c : Nat) (l : List UInt8) (h : Re W b A n c l 0) => rerr_any W b A n c l 0 h)
  have CD := Lib.hid (fun (x : Dt) (hq : dotB x.1.1 x.1.2 x.2 = true) (R : List UInt8) (W : World) (A : Option Addr) (n c : Nat) (h : Re W b A n c (dP x ++ R) 0) => dget_put x.1.1 x.1.2 x.2 hq R W b A n c h)
  have CC := Lib.hid (fun (W : World) (A : Option Addr) (c : Nat) (h : MsAt W A L) => vccheck_any W A c L h (by omega))
  rw [hv.chk (by omega)] at CC
  have hbN := h.1.lt
  have HV := Lib.hid hv
  generalize hlen : L.length = n at *
  have HLn := Lib.hid hlen
  generalize hN : w.heap.size = N at *
  unfold dotV at CD
  clear h hnP hlen hv
  go_enter Tryz.func36, Tryz.ntmps36
  go_wp2_with fail
  refine (CN.out).mono ?_; rintro e w1 ⟨A1, n1, c1, rfl, hR1, ch1⟩
  have hz1 : N ≤ w1.heap.size := by have := ch1.size; omega
  have H1 := Lib.hid (And.intro hR1 ch1)
  clear hR1 ch1 CN
  go_wp2_with fail
  go_loopw [3, 4] (fun y i wr => ∃ (j : Nat) (A3 : Option Addr) (c3 : Nat) (A2 : Option Addr) (n2 c2 : Nat), j ≤ n ∧ i = .int .u64 ((n - j : Nat) : Int) ∧ y = .slice A3 j c3 ∧ Own wr N 111 3 A3 j c3 (dts (L.take j)) ∧ Re wr b A2 n2 c2 (dsP (L.drop j) ++ R) 0 ∧ Ch (fun k => k = b) w wr ∧ N ≤ wr.heap.size) (fun _ i _ => (intOf i).toNat)
  case atStart => exact ⟨0, none, 0, A1, n1, c1, by omega, rfl, rfl, Own.nil_, H1.out.1, H1.out.2, hz1⟩
  case round =>
    obtain ⟨j, A3, c3, A2, n2, c2, hj, rfl, rfl, hO, hR, hC, hz⟩ := hrel
    have HI := Lib.hid (And.intro hO (And.intro hR hC))
    clear hO hR hC H1
    by_cases hlt : j < n
    · obtain ⟨x, hx⟩ : ∃ x, L[j]? = some x := ⟨L[j]'(by have := HLn.out; omega), List.getElem?_eq_getElem _⟩
      obtain ⟨m, hm⟩ : ∃ m, n - j = m + 1 := ⟨n - j - 1, by omega⟩
      rw [hm]
      have hdr := dsP_drop hx
      have hRe := HI.out.2.1
      rw [hdr, List.append_assoc] at hRe
      have HRe := Lib.hid hRe
      have CX := Lib.hid (CD.out x (HV.out.2 x (List.mem_of_getElem? hx)) (dsP (L.drop (j + 1)) ++ R))
      have htk := Lib.hid (show L.take (j + 1) = L.take j ++ [x] by rw [List.take_add_one, hx]; rfl)
      have hlj := Lib.hid (show (L.take j).length = j by rw [List.length_take]; have := HLn.out; omega)
      obtain ⟨⟨d, i⟩, q⟩ := x
      simp only at CX
      clear hx hdr hRe
      have hm1 : (0 : Int) < ((m + 1 : Nat) : Int) := by omega
      go_wp2_with fail
      refine (CE.out _ _ _ _ _ HRe.out).mono ?_; rintro e w5 ⟨rfl, rfl⟩
      go_wp2_with fail
      refine (CX.out _ _ _ _ HRe.out).mono ?_; rintro e w6 ⟨A6, n6, c6, rfl, hR6, ch6⟩
      have hz6 : N ≤ w6.heap.size := Nat.le_trans hz ch6.size
      have hO6 : Own w6 N 111 3 A3 j c3 (dts (L.take j)) := HI.out.1.ch ch6 (fun g _ _ hg e => by have := HI.out.1.bl_lo g hg; omega)
      have hb7 : Below N w6 (w6.alloc (.cells #[.int .i64 d, .int .i64 i, .int .i64 q] 50)) := (Below.refl N w6).alloc hz6 _
      have hO7 := hO6.alloc (.cells #[.int .i64 d, .int .i64 i, .int .i64 q] 50)
      have h7 := Lib.hid (C3.new w6 d i q 50)
      obtain ⟨A8, c8, w8, q8, o8, ch8, b8⟩ := app1 (w6.alloc (.cells #[.int .i64 d, .int .i64 i, .int .i64 q] 50)) N A3 j c3 (L.take j) hlj.out hO7 ((d, i), q) (by omega) (by simp; omega)
      have hbl := hb7.trans b8
      have HF := Lib.hid (And.intro o8 (And.intro (hR6.far hbl (by omega)) (And.intro (Ch.belowN (HI.out.2.2.trans ch6 (fun k _ h => h)) hbl (by omega)) (Nat.le_trans hz6 hbl.size))))
      rw [show (w6.alloc (.cells #[.int .i64 d, .int .i64 i, .int .i64 q] 50)).heap.size = w6.heap.size + 1 by simp] at q8
      have Q8 := Lib.hid q8
      clear hO6 hb7 hO7 o8 ch8 b8 hbl hR6 ch6 q8
      obtain ⟨k0, k1, k2⟩ := h7.out
      have hm2 : n - (j + 1) = m := by omega
      have HM2 := Lib.hid hm2
      clear hm2
      have hm3 : m < 18446744073709551615 := by omega
      go_wp2_with (at_builtin; refine wpList_want (by rfl) (fun K hK => wp_append_runs _ _ _ _ _ rfl _ _ rfl rfl _ _ Q8.out (hK _ _ ?_)))
      go_wp2
      go_roundw
      case rel =>
        exact ⟨j + 1, A8, c8, A6, n6, c6, by omega, by rw [HM2.out], rfl, by rw [htk.out]; exact HF.out.1, HF.out.2.1, HF.out.2.2.1, HF.out.2.2.2⟩
      case measure => simp only [intOf]; omega
    · have hj' : n = j := by omega
      subst hj'
      have hO := HI.out.1
      have hR := HI.out.2.1
      have hz0 : n - n = 0 := by omega
      rw [List.take_of_length_le (by have := HLn.out; omega)] at hO
      rw [List.drop_of_length_le (by have := HLn.out; omega)] at hR
      have hM : MsAt wr A3 L := MsAt.own (by rw [HLn.out]; exact hO)
      have HE := Lib.hid (And.intro hM (And.intro (show Re wr b A2 n2 c2 R 0 from by simpa [dsP] using hR) (show ∀ k, bl A3 = some k → N ≤ k from fun k hk => hO.bl_lo k hk)))
      clear hO hR hM
      rw [hz0]
      go_wp2_with fail
      refine (CE.out _ _ _ _ _ HE.out.2.1).mono ?_; rintro e w5 ⟨rfl, rfl⟩
      go_wp2_with fail
      refine (CC.out _ _ _ HE.out.1).mono ?_; rintro e w6 ⟨rfl, b6⟩
      have HG := Lib.hid (And.intro (HE.out.1.up b6) (And.intro (HE.out.2.1.far b6 (by omega)) (Ch.belowN HI.out.2.2 b6 (by omega))))
      clear b6
      go_wp2_with fail
      refine (CE.out _ _ _ _ _ HG.out.2.1).mono ?_; rintro e w7 ⟨rfl, rfl⟩
      have HX := Lib.hid (show GetE w b L R (.returned (.slice A3 n c3)) w6 from ⟨A3, c3, A2, n2, c2, by rw [HLn.out], HG.out.1, by rw [hN]; exact HE.out.2.2, HG.out.2.1, HG.out.2.2⟩)
      go_wp2
      go_ret
      exact HX.out
end Go.Proofs.YtpakmeegldgjmaaGreat
/- Slices of whatever, opened: a list of elements, each as its cells. -/
namespace Go.Proofs.YtpakmeegldgjmaaGreat
open Go.ChangeShapes Go.WideShapes Go.ChangeAt Go.RowKit Go.Deep
set_option linter.unusedVariables false
set_option maxRecDepth 100000

theorem flatMap_atG {α : Type} (C : α → List Value) (k : Nat) (hk : 0 < k) (hC : ∀ x, (C x).length = k) : ∀ (L : List α) (j : Nat), (L.flatMap C)[j]? = (L[j / k]?).bind fun x => (C x)[j % k]?
  | [], j => by simp
  | x :: r, j => by
    rw [List.flatMap_cons]
    by_cases h : j < k
    · rw [List.getElem?_append_left (by rw [hC]; exact h), Nat.div_eq_of_lt h, Nat.mod_eq_of_lt h]
      simp
    · rw [List.getElem?_append_right (by rw [hC]; omega), hC, flatMap_atG C k hk hC r (j - k)]
      have e : j / k = (j - k) / k + 1 := by rw [← Nat.sub_add_cancel (show k ≤ j by omega), Nat.add_div_right _ hk]; simp
      rw [e, List.getElem?_cons_succ, show (j - k) % k = j % k from (Nat.mod_eq_sub_mod (by omega)).symm]
theorem flatMap_lenG {α : Type} (C : α → List Value) (k : Nat) (hC : ∀ x, (C x).length = k) (L : List α) : (L.flatMap C).length = L.length * k := by
  induction L with
  | nil => simp
  | cons x r ih => rw [List.flatMap_cons, List.length_append, hC, ih, List.length_cons, Nat.succ_mul, Nat.add_comm]
theorem addr_addG (b x y : Nat) : (⟨b, x, none⟩ : Addr).add y = ⟨b, x + y, none⟩ := by by_cases hy : y = 0 <;> simp [Addr.add, hy]
/-- The elements of a slice, read where they lie. -/
theorem elems_of_trod {H : Type} {enc : TypeId × Value → H} {W : World} {P : Program} {t e : TypeId} {k : Nat} {X : Type} (C : X → List Value) (Ok : X → Prop) (y0 : X) (ht : P.underlying t = some (.slice e)) (hC : P.cellsOf e = k) (hk : 0 < k) (hl : ∀ y, (C y).length = k)
    (hel : ∀ fuel cs x, DataW.trod enc P W 0 (fun _ => true) true fuel e cs = some x → ∃ y, cs = C y ∧ Ok y)
    {fuel : Nat} {cs : List Value} {x : DataW H × List MemPlace} (hf : DataW.trod enc P W 0 (fun _ => true) true fuel t cs = some x) :
    ∃ A c, ∃ L : List X, cs = [.slice A L.length c] ∧ L.length ≤ c ∧ c ≤ maxLen ∧ Rd W W.heap.size k A L.length (L.flatMap C) ∧ ∀ y ∈ L, Ok y := by
  rcases open_slice ht hf with ⟨hcs, _⟩ | ⟨a, len, cp, m, n', D, Pl, hcs, _, hln, hm, hmm, _, hi⟩
  · exact ⟨none, 0, [], hcs, Nat.le_refl _, by simp [maxLen], ⟨by simp, fun h => absurd h (by simp)⟩, by simp⟩
  · simp at hmm
    subst hmm
    have hF : ∀ i, ∃ y : X, i < len → Ok y ∧ ∀ j, j < k → W.cell? ((a.add (i * k)).add j) = (C y)[j]? := by
      intro i
      by_cases hin : i < len
      · obtain ⟨cs', hc, ht'⟩ := hi i (by omega)
        rw [hC] at hc
        obtain ⟨_, hcl, hat⟩ := World.cells?_some hc
        obtain ⟨y, rfl, hy⟩ := hel _ _ _ ht'
        exact ⟨y, fun _ => ⟨hy, fun j hj => hat j hj⟩⟩
      · exact ⟨y0, fun h => absurd h hin⟩
    obtain ⟨F, hF⟩ := Classical.axiomOfChoice hF
    have hlen : ((List.range len).map F).length = len := by simp
    refine ⟨some a, _, (List.range len).map F, by rw [hlen]; exact hcs, by rw [hlen]; exact hln, hm, ⟨by rw [flatMap_lenG C k hl], fun hn => ?_⟩, fun y hy => ?_⟩
    · rw [hlen] at hn
      have hn0 : 0 < len := Nat.pos_of_ne_zero fun e => by subst e; simp at hn
      have h0 := ((hF 0) hn0).2 0 hk
      rw [List.getElem?_eq_getElem (by rw [hl]; exact hk)] at h0
      obtain ⟨b, off, spot⟩ := a
      have hspot : spot = none := by simpa [Addr.add] using World.cell?_spot h0
      subst hspot
      have hlt : b < W.heap.size := by
        rcases Nat.lt_or_ge b W.heap.size with hlt | hge
        · exact hlt
        · simp [World.cell?, Addr.add, Array.getElem?_eq_none hge] at h0
      refine ⟨b, off, rfl, hlt, fun j u hu => ?_⟩
      rw [flatMap_atG C k hk hl] at hu
      have hj : j / k < len := by
        rcases Nat.lt_or_ge (j / k) len with h | h
        · exact h
        · rw [List.getElem?_eq_none (by rw [hlen]; exact h)] at hu; cases hu
      rw [List.getElem?_map, List.getElem?_range hj] at hu
      have hc := ((hF (j / k)) hj).2 (j % k) (Nat.mod_lt _ hk)
      rw [addr_addG, addr_addG, Nat.add_assoc, Nat.mul_comm, Nat.div_add_mod] at hc
      rw [hc]
      exact hu
    · obtain ⟨i, hi', rfl⟩ := List.mem_map.1 hy
      exact ((hF i) (by simpa using hi')).1
end Go.Proofs.YtpakmeegldgjmaaGreat
/- Loads and stores of whole structs, without opening them cell by cell; structs that lie in a slice. -/
namespace Go.Proofs.YtpakmeegldgjmaaGreat
open Go.RowKit
set_option linter.unusedVariables false
set_option maxRecDepth 100000

def setMany (C : Array Value) : Nat → List Value → Array Value
  | _, [] => C
  | o, v :: r => setMany (C.setIfInBounds o v) (o + 1) r
theorem setMany_at (vs : List Value) : ∀ (C : Array Value) (o i : Nat), o + vs.length ≤ C.size → (setMany C o vs)[i]? = if o ≤ i ∧ i < o + vs.length then vs[i - o]? else C[i]? := by
  induction vs with
  | nil => intro C o i h; rw [if_neg (by simp)]; rfl
  | cons v r ih =>
    intro C o i h
    unfold setMany
    rw [ih _ _ _ (by rw [Array.size_setIfInBounds]; simp at h; omega), Array.getElem?_setIfInBounds]
    simp at h
    by_cases h1 : o = i
    · subst h1
      rw [if_neg (by omega), if_pos rfl, if_pos (by omega), if_pos (by simp)]
      simp
    · by_cases h2 : o + 1 ≤ i ∧ i < o + 1 + r.length
      · rw [if_pos h2, if_pos (by simp; omega)]
        obtain ⟨k, hk⟩ : ∃ k, i - o = k + 1 := ⟨i - o - 1, by omega⟩
        rw [hk, show i - (o + 1) = k by omega]
        simp
      · rw [if_neg h2, if_neg h1, if_neg (by simp; omega)]
theorem setMany_all (vs : List Value) (C : Array Value) (h : vs.length = C.size) : setMany C 0 vs = vs.toArray := by
  apply Array.ext_getElem?
  intro i
  rw [setMany_at _ _ _ _ (by omega)]
  by_cases hi : i < vs.length
  · rw [if_pos (by omega)]; simp
  · rw [if_neg (by omega), Array.getElem?_eq_none (by omega)]; simp; omega
theorem heap_setCells {g : Nat} {t : TypeId} {fr : Nat × Nat} (vs : List Value) : ∀ (W : World) (C : Array Value) (o : Nat), W.heap[g]? = some (.cells C t fr) → (W.setCells g o vs).heap[g]? = some (.cells (setMany C o vs) t fr) := by
  induction vs with
  | nil => intro W C o h; exact h
  | cons v r ih =>
    intro W C o h
    unfold World.setCells setMany
    exact ih _ _ _ (by simp [World.setCell, Array.getElem?_modify, h])
theorem ch_setCells (g : Nat) (vs : List Value) : ∀ (W : World) (o : Nat), Ch (fun k => k = g) W (W.setCells g o vs) ∧ (W.setCells g o vs).heap.size = W.heap.size := by
  induction vs with
  | nil => intro W o; exact ⟨⟨rfl, rfl, rfl, Nat.le_refl _, fun k _ _ => rfl⟩, rfl⟩
  | cons v r ih =>
    intro W o
    unfold World.setCells
    have h := ih (W.setCell ⟨g, o, none⟩ v) (o + 1)
    have h0 := Ch.set_ W ⟨g, o, none⟩ v
    exact ⟨h0.trans h.1 (fun k _ hk => hk), h.2.trans (by simp)⟩
section
variable {P : Program} {W : World} {g : Nat} {t T : TypeId} {cs : Array Value} {d : TypeDesc} {ops : Array Oper} {rest : List Oper} {op : Oper} {a : Act} {Q : Exit → Act → World → Prop}
theorem Whole.range (h : Whole W g t cs) : W.rangeAt g 0 cs.toList := fun j v hv => by rw [Nat.zero_add, h.cell, ← Array.getElem?_toList]; exact hv
/-- The load of a whole block's struct, at an operation of a plain region. -/
theorem ld_whole (hg : Region.wanted op (yielded ops a.tmps) = true) (x : Operand) (ho : op.op = .load T x) (hx : a.eval x = .pointer (some ⟨g, 0, none⟩)) (hW : Whole W g t cs) (hu : P.underlying T = some d) (hd : d.isRow = true) (hi : (P.info? T).map (·.size) = some cs.size)
    (h : wpList P ops Q rest (a.put op.dst (.agg cs)) W) : wpList P ops Q (op :: rest) a W :=
  wpList_want hg fun K hK => wp_load_mid T x ho g 0 hx cs.toList d hW.range hu hd (by rw [hi]; simp) (hK _ _ (by simpa using h))
/-- The load of a struct that lies in a row. -/
theorem ld_range {b o : Nat} {vs : Array Value} (hg : Region.wanted op (yielded ops a.tmps) = true) (x : Operand) (ho : op.op = .load T x) (hx : a.eval x = .pointer (some ⟨b, o, none⟩)) (hW : W.rangeAt b o vs.toList) (hu : P.underlying T = some d) (hd : d.isRow = true) (hi : (P.info? T).map (·.size) = some vs.size)
    (h : wpList P ops Q rest (a.put op.dst (.agg vs)) W) : wpList P ops Q (op :: rest) a W :=
  wpList_want hg fun K hK => wp_load_mid T x ho b o hx vs.toList d hW hu hd (by rw [hi]; simp) (hK _ _ (by simpa using h))
/-- The store of a struct into a whole block. -/
theorem st_whole {C : Array Value} (hg : Region.wanted op (yielded ops a.tmps) = true) (x y : Operand) (ho : op.op = .store T x y) (hx : a.eval x = .pointer (some ⟨g, 0, none⟩)) (hy : a.eval y = .agg cs) (hW : Whole W g t C) (hs : C.size = cs.size) (hi : (P.info? T).map (·.size) = some cs.size) (h1 : cs.toList.all (·.oneCell') = true)
    (h : ∀ W', Whole W' g t cs → Ch (fun k => k = g) W W' → W'.heap.size = W.heap.size → wpList P ops Q rest (a.put op.dst undef) W') : wpList P ops Q (op :: rest) a W :=
  wpList_want hg fun K hK => wp_store_mid T x y ho g 0 cs hx hy (fun j hj => ⟨by rw [Nat.zero_add, hW.cell]; simp [hs, hj], hW.free _⟩) hi (by rw [← Array.all_toList]; exact h1) (hK _ _ (h _ (by
    have := heap_setCells cs.toList W C 0 hW
    rw [setMany_all _ _ (by simp [hs]), Array.toArray_toList] at this
    exact this) (ch_setCells _ _ _ _).1 (ch_setCells _ _ _ _).2))
/-- A load under an S that tells the range, in a region that draws its order. -/
theorem take_range {S : World → Prop} {b o : Nat} {vs : Array Value} (hw : Region.wanted op (yielded ops a.tmps) = true) (x : Operand) (ho : op.op = .load T x) (hx : a.eval x = .pointer (some ⟨b, o, none⟩)) (hS : ∀ w, S w → w.rangeAt b o vs.toList) (hu : P.underlying T = some d) (hd : d.isRow = true) (hi : (P.info? T).map (·.size) = some vs.size) : YieldsIf P ops S op (.agg vs) a := by
  have h := yieldsIf_load_mid (P := P) (ops := ops) (S := S) (op := op) (a := a) hw T x ho b o hx vs.toList d hS hu hd (by rw [hi]; simp)
  simpa using h
end
/-- A struct out of a slice of such. -/
theorem rd_range {α : Type} {C : α → List Value} {k : Nat} (hk : 0 < k) (hC : ∀ x, (C x).length = k) {W : World} {B i : Nat} {A : Option Addr} {L : List α} {x : α} (h : Rd W B k A L.length (L.flatMap C)) (hx : L[i]? = some x) :
    ∃ b o, A = some ⟨b, o, none⟩ ∧ b < B ∧ W.rangeAt b (o + i * k) (C x) := by
  have hi : i < L.length := (List.getElem?_eq_some_iff.1 hx).1
  obtain ⟨b, o, hA, hb, hc⟩ := h.2 (Nat.mul_pos (by omega) hk)
  refine ⟨b, o, hA, hb, fun j v hv => ?_⟩
  have hj : j < k := by have := (List.getElem?_eq_some_iff.1 hv).1; rw [hC] at this; exact this
  have e := flatMap_atG C k hk hC L (i * k + j)
  rw [Nat.mul_comm i k, Nat.mul_add_div hk, Nat.div_eq_of_lt hj, Nat.add_zero, hx, Nat.mul_add_mod, Nat.mod_eq_of_lt hj] at e
  have := hc (k * i + j) v (by rw [e]; exact hv)
  rw [Nat.mul_comm k i, ← Nat.add_assoc] at this
  exact this
end Go.Proofs.YtpakmeegldgjmaaGreat
/- Texts, plain: small letters, blanks, parts, numbers, names of hosts. -/
namespace Go.Proofs.YtpakmeegldgjmaaGreat
set_option linter.unusedVariables false

def lowB (c : UInt8) : UInt8 := if 65 ≤ c.toNat ∧ c.toNat ≤ 90 then UInt8.ofNat (c.toNat + 32) else c
def lowL (l : List UInt8) : List UInt8 := l.map lowB
def blankB (c : UInt8) : Bool := c.toNat == 32 || c.toNat == 9
/-- No blank at an end. -/
def endsB (l : List UInt8) : Bool := !(l.head?.any blankB) && !(l.getLast?.any blankB)
def ctlB (c : UInt8) : Bool := (decide (c.toNat < 32) && c.toNat != 9) || c.toNat == 127
def ctlL (l : List UInt8) : Bool := l.any ctlB
def hasB (l : List UInt8) (c : Nat) : Bool := l.any fun x => x.toNat == c
def digB (c : UInt8) : Bool := decide (48 ≤ c.toNat) && decide (c.toNat ≤ 57)
/-- The parts between bytes. -/
def splitL (c : Nat) : List UInt8 → List (List UInt8)
  | [] => [[]]
  | x :: r => if x.toNat = c then [] :: splitL c r else
    match splitL c r with
    | [] => [[x]]
    | a :: t => (x :: a) :: t
theorem splitL_ne (c : Nat) (l : List UInt8) : splitL c l ≠ [] := by
  cases l with
  | nil => simp [splitL]
  | cons x r =>
    unfold splitL
    split
    · simp
    · split <;> simp
theorem splitL_all {c : Nat} (l : List UInt8) : ∀ x ∈ l, x.toNat = c ∨ ∃ p ∈ splitL c l, x ∈ p := by
  induction l with
  | nil => intro x hx; cases hx
  | cons y r ih =>
    intro x hx
    unfold splitL
    split
    · rename_i hy
      rcases List.mem_cons.1 hx with rfl | hx
      · exact .inl hy
      · rcases ih x hx with h | ⟨p, hp, h⟩
        · exact .inl h
        · exact .inr ⟨p, List.mem_cons_of_mem _ hp, h⟩
    · cases e : splitL c r with
      | nil => exact absurd e (splitL_ne c r)
      | cons a t =>
        simp only
        rcases List.mem_cons.1 hx with rfl | hx
        · exact .inr ⟨_, List.mem_cons_self .., List.mem_cons_self ..⟩
        · rcases ih x hx with h | ⟨p, hp, h⟩
          · exact .inl h
          · rw [e] at hp
            rcases List.mem_cons.1 hp with rfl | hp
            · exact .inr ⟨_, List.mem_cons_self .., List.mem_cons_of_mem _ h⟩
            · exact .inr ⟨p, List.mem_cons_of_mem _ hp, h⟩
/-- A number's digits, read; no more than 2^40. -/
def numF (n : Nat) (l : List UInt8) : Nat := l.foldl (fun n c => min (n * 10 + (c.toNat - 48)) 1099511627776) n
def numL (l : List UInt8) : Nat := numF 0 l
theorem numF_le (l : List UInt8) (n : Nat) (hn : n ≤ 1099511627776) : numF n l ≤ 1099511627776 := by
  induction l generalizing n with
  | nil => exact hn
  | cons x r ih => exact ih _ (Nat.min_le_right _ _)
theorem numF_ge (l : List UInt8) (n : Nat) (hn : n ≤ 1099511627776) : min (n * 10 ^ l.length) 1099511627776 ≤ numF n l := by
  induction l generalizing n with
  | nil => simp [numF]; omega
  | cons x r ih =>
    have h := ih (min (n * 10 + (x.toNat - 48)) 1099511627776) (Nat.min_le_right _ _)
    refine Nat.le_trans ?_ h
    rw [List.length_cons, Nat.pow_succ]
    have hp : 0 < 10 ^ r.length := Nat.pow_pos (by omega)
    have h1 : n * (10 ^ r.length * 10) = n * 10 * 10 ^ r.length := by rw [Nat.mul_comm (10 ^ r.length) 10, Nat.mul_assoc]
    rw [h1]
    by_cases hle : n * 10 + (x.toNat - 48) ≤ 1099511627776
    · rw [Nat.min_eq_left hle]
      have : n * 10 * 10 ^ r.length ≤ (n * 10 + (x.toNat - 48)) * 10 ^ r.length := Nat.mul_le_mul_right _ (Nat.le_add_right _ _)
      omega
    · rw [Nat.min_eq_right (show 1099511627776 ≤ n * 10 + (x.toNat - 48) by omega)]
      have : 1099511627776 * 1 ≤ 1099511627776 * 10 ^ r.length := Nat.mul_le_mul_left _ hp
      omega
/-- A number of an address. -/
def octB (p : List UInt8) : Bool := decide (p ≠ []) && p.all digB && decide (numL p ≤ 255) && !(decide (1 < p.length) && (p.head?.any fun c => c.toNat == 48))
def octR (p : List UInt8) : Bool := decide (1 ≤ p.length) && decide (p.length ≤ 3) && p.all digB && decide (numL p ≤ 255) && decide (digL (numL p) = p)
theorem digB_of {c : UInt8} (h : digB c = true) : ∃ d : Nat, d < 10 ∧ c = UInt8.ofNat (48 + d) := by
  unfold digB at h
  rw [Bool.and_eq_true, decide_eq_true_eq, decide_eq_true_eq] at h
  refine ⟨c.toNat - 48, by omega, ?_⟩
  apply UInt8.toNat_inj.1
  rw [UInt8.toNat_ofNat']
  omega
theorem oct1 : ∀ a : Fin 10, digL (numL [UInt8.ofNat (48 + a.1)]) = [UInt8.ofNat (48 + a.1)] := by decide +kernel
theorem oct2 : ∀ a b : Fin 10, (digL (numL [UInt8.ofNat (48 + a.1), UInt8.ofNat (48 + b.1)]) = [UInt8.ofNat (48 + a.1), UInt8.ofNat (48 + b.1)]) ↔ a.1 ≠ 0 := by decide +kernel
theorem oct3 : ∀ a b c : Fin 10, (digL (numL [UInt8.ofNat (48 + a.1), UInt8.ofNat (48 + b.1), UInt8.ofNat (48 + c.1)]) = [UInt8.ofNat (48 + a.1), UInt8.ofNat (48 + b.1), UInt8.ofNat (48 + c.1)]) ↔ a.1 ≠ 0 := by decide +kernel
theorem oct_eq (p : List UInt8) : octB p = octR p := by
  unfold octB octR
  by_cases hd : p.all digB = true
  · rw [hd]
    have hall : ∀ x ∈ p, digB x = true := List.all_eq_true.1 hd
    match p, hall with
    | [], _ => simp
    | [x], h =>
      obtain ⟨d, hd1, rfl⟩ := digB_of (h x (by simp))
      have := oct1 ⟨d, hd1⟩
      simp only at this
      rw [this]
      simp
    | [x, y], h =>
      obtain ⟨d, hd1, rfl⟩ := digB_of (h x (by simp))
      obtain ⟨e, he, rfl⟩ := digB_of (h y (by simp))
      have := oct2 ⟨d, hd1⟩ ⟨e, he⟩
      simp only at this
      by_cases h0 : d = 0
      · subst h0
        have h1 : ¬ digL (numL [UInt8.ofNat (48 + 0), UInt8.ofNat (48 + e)]) = [UInt8.ofNat (48 + 0), UInt8.ofNat (48 + e)] := fun h => this.1 h rfl
        rw [decide_eq_false h1]
        simp
      · rw [decide_eq_true (this.2 h0)]
        have h2 : ((UInt8.ofNat (48 + d)).toNat == 48) = false := by rw [UInt8.toNat_ofNat']; simp; omega
        simp only [List.head?_cons, Option.any_some, h2, Bool.and_false, Bool.not_false, Bool.and_true]
        simp
    | [x, y, z], h =>
      obtain ⟨d, hd1, rfl⟩ := digB_of (h x (by simp))
      obtain ⟨e, he, rfl⟩ := digB_of (h y (by simp))
      obtain ⟨f, hf, rfl⟩ := digB_of (h z (by simp))
      have := oct3 ⟨d, hd1⟩ ⟨e, he⟩ ⟨f, hf⟩
      simp only at this
      by_cases h0 : d = 0
      · subst h0
        have h1 : ¬ digL (numL [UInt8.ofNat (48 + 0), UInt8.ofNat (48 + e), UInt8.ofNat (48 + f)]) = [UInt8.ofNat (48 + 0), UInt8.ofNat (48 + e), UInt8.ofNat (48 + f)] := fun h => this.1 h rfl
        rw [decide_eq_false h1]
        simp
      · rw [decide_eq_true (this.2 h0)]
        have h2 : ((UInt8.ofNat (48 + d)).toNat == 48) = false := by rw [UInt8.toNat_ofNat']; simp; omega
        simp only [List.head?_cons, Option.any_some, h2, Bool.and_false, Bool.not_false, Bool.and_true]
        simp
    | x :: y :: z :: v :: r, h =>
      obtain ⟨d, hd1, rfl⟩ := digB_of (h x (by simp))
      by_cases h0 : d = 0
      · subst h0
        simp
      · have hn : ¬ numL (UInt8.ofNat (48 + d) :: y :: z :: v :: r) ≤ 255 := by
          have h1 : numL (UInt8.ofNat (48 + d) :: y :: z :: v :: r) = numF d (y :: z :: v :: r) := by
            unfold numL numF
            rw [List.foldl_cons]
            congr 1
            rw [UInt8.toNat_ofNat']
            omega
          have h2 := numF_ge (y :: z :: v :: r) d (by omega)
          rw [h1]
          have h3 : 1000 ≤ d * 10 ^ (y :: z :: v :: r).length := by
            have h4 : 10 ^ 3 ≤ 10 ^ (y :: z :: v :: r).length := Nat.pow_le_pow_right (by omega) (by simp)
            have h5 : 1 * 10 ^ (y :: z :: v :: r).length ≤ d * 10 ^ (y :: z :: v :: r).length := Nat.mul_le_mul_right _ (by omega)
            omega
          omega
        rw [decide_eq_false hn]
        simp
  · rw [Bool.not_eq_true] at hd
    rw [hd]
    simp
/-- Names of hosts. -/
def signB (c : UInt8) : Bool := (decide (97 ≤ c.toNat) && decide (c.toNat ≤ 122)) || (decide (48 ≤ c.toNat) && decide (c.toNat ≤ 57)) || c.toNat == 45 || c.toNat == 95
def labelB (l : List UInt8) : Bool := decide (1 ≤ l.length) && decide (l.length ≤ 63) && l.all signB && !(l.head?.any fun c => c.toNat == 45) && !(l.getLast?.any fun c => c.toNat == 45)
def fourB (l : List UInt8) : Bool := decide ((splitL 46 l).length = 4) && (splitL 46 l).all octB
def hexB (c : UInt8) : Bool := (decide (48 ≤ c.toNat) && decide (c.toNat ≤ 57)) || (decide (97 ≤ c.toNat) && decide (c.toNat ≤ 102)) || c.toNat == 58 || c.toNat == 46
def brackB (l : List UInt8) : Bool := decide (4 ≤ l.length) && decide (l.length ≤ 47) && (l.head?.any fun c => c.toNat == 91) && (l.getLast?.any fun c => c.toNat == 93) && ((l.drop 1).take (l.length - 2)).all hexB
def addrB (l : List UInt8) : Bool := fourB l || brackB l
def labsB (l : List UInt8) : Bool := (splitL 46 l).all labelB
/-- A name, as the program has it; and as the document has it. -/
def nameB (l : List UInt8) : Bool := decide (l.length ≤ 256) && !addrB l && labsB l
def nameR (l : List UInt8) : Bool := decide (l.length ≤ 256) && !fourB l && labsB l
theorem label_sign {l : List UInt8} (h : labelB l = true) : ∀ x ∈ l, signB x = true := by
  unfold labelB at h
  simp only [Bool.and_eq_true] at h
  exact List.all_eq_true.1 h.1.1.2
theorem labs_sign {l : List UInt8} (h : labsB l = true) : ∀ x ∈ l, x.toNat = 46 ∨ signB x = true := fun x hx => by
  rcases splitL_all (c := 46) l x hx with h1 | ⟨p, hp, h1⟩
  · exact .inl h1
  · exact .inr (label_sign (List.all_eq_true.1 h p hp) x h1)
theorem name_eq (l : List UInt8) : nameB l = nameR l := by
  unfold nameB nameR
  cases hl : labsB l with
  | false => simp
  | true =>
    have hb : brackB l = false := by
      rw [Bool.eq_false_iff]
      intro hb
      unfold brackB at hb
      simp only [Bool.and_eq_true] at hb
      have h91 := hb.1.1.2
      cases l with
      | nil => cases h91
      | cons x r =>
        simp at h91
        rcases labs_sign hl x (List.mem_cons_self ..) with h | h
        · omega
        · unfold signB at h
          rw [h91] at h
          simp at h
    unfold addrB
    rw [hb, Bool.or_false]
theorem lowB_id {x : UInt8} (h : ¬ (65 ≤ x.toNat ∧ x.toNat ≤ 90)) : lowB x = x := by
  unfold lowB
  rw [if_neg h]
theorem lowL_id {l : List UInt8} (h : ∀ x ∈ l, ¬ (65 ≤ x.toNat ∧ x.toNat ≤ 90)) : lowL l = l := by
  unfold lowL
  exact (List.map_congr_left fun x hx => lowB_id (h x hx)).trans (List.map_id _)
theorem lowL_len (l : List UInt8) : (lowL l).length = l.length := by simp [lowL]
theorem sign_low {x : UInt8} (h : signB x = true) : ¬ (65 ≤ x.toNat ∧ x.toNat ≤ 90) := by
  unfold signB at h
  simp only [Bool.or_eq_true, Bool.and_eq_true, decide_eq_true_eq, beq_iff_eq] at h
  omega
theorem labs_low {l : List UInt8} (h : labsB l = true) : lowL l = l := lowL_id fun x hx => by
  rcases labs_sign h x hx with h1 | h1
  · omega
  · exact sign_low h1
theorem four_low {l : List UInt8} (h : fourB l = true) : lowL l = l := lowL_id fun x hx => by
  unfold fourB at h
  rw [Bool.and_eq_true] at h
  rcases splitL_all (c := 46) l x hx with h1 | ⟨p, hp, h1⟩
  · omega
  · have := List.all_eq_true.1 h.2 p hp
    unfold octB at this
    simp only [Bool.and_eq_true] at this
    have := List.all_eq_true.1 this.1.1.2 x h1
    unfold digB at this
    rw [Bool.and_eq_true, decide_eq_true_eq, decide_eq_true_eq] at this
    omega
theorem brack_low {l : List UInt8} (h : brackB l = true) : lowL l = l := lowL_id fun x hx => by
  unfold brackB at h
  simp only [Bool.and_eq_true] at h
  obtain ⟨⟨⟨⟨h1, h2⟩, h3⟩, h4⟩, h5⟩ := h
  rw [decide_eq_true_eq] at h1 h2
  obtain ⟨i, hi, rfl⟩ := List.mem_iff_getElem.1 hx
  by_cases e0 : i = 0
  · subst e0
    have : l.head? = some l[0] := by rw [List.head?_eq_getElem?, List.getElem?_eq_getElem hi]
    rw [this] at h3
    simp at h3
    omega
  · by_cases e1 : i = l.length - 1
    · have : l.getLast? = some l[i] := by rw [List.getLast?_eq_getElem?, ← e1, List.getElem?_eq_getElem hi]
      rw [this] at h4
      simp at h4
      omega
    · have hm : l[i] ∈ (l.drop 1).take (l.length - 2) := by
        refine List.mem_iff_getElem?.2 ⟨i - 1, ?_⟩
        rw [List.getElem?_take, if_pos (by omega), List.getElem?_drop, show 1 + (i - 1) = i by omega, List.getElem?_eq_getElem hi]
      have := List.all_eq_true.1 h5 _ hm
      unfold hexB at this
      simp only [Bool.or_eq_true, Bool.and_eq_true, decide_eq_true_eq, beq_iff_eq] at this
      omega
/-- A host's name or address, as it has to be. -/
def canonB (l : List UInt8) : Bool := decide (l.length ≤ 256) && (nameR l || addrB l)
theorem canon_low {l : List UInt8} (h : canonB l = true) : lowL l = l := by
  unfold canonB at h
  rw [Bool.and_eq_true, Bool.or_eq_true] at h
  rcases h.2 with h | h
  · unfold nameR at h
    simp only [Bool.and_eq_true] at h
    exact labs_low h.2
  · unfold addrB at h
    rw [Bool.or_eq_true] at h
    rcases h with h | h
    · exact four_low h
    · exact brack_low h
/-- Of any text: made small it is a name or an address, and it is small: just where it is canonical. -/
theorem canon_iff (l : List UInt8) : (decide (l.length ≤ 256) && (nameB (lowL l) || addrB (lowL l)) && decide (lowL l = l)) = canonB l := by
  rw [Bool.eq_iff_iff]
  constructor
  · intro h
    simp only [Bool.and_eq_true, decide_eq_true_eq] at h
    obtain ⟨⟨h1, h2⟩, h3⟩ := h
    rw [h3] at h2
    unfold canonB
    rw [← name_eq, h2, decide_eq_true h1]
    rfl
  · intro h
    have h3 := canon_low h
    unfold canonB at h
    rw [← name_eq] at h
    rw [h3, h]
    simp
end Go.Proofs.YtpakmeegldgjmaaGreat
/- Texts by places, plain: the byte at a place, the first place of a byte, blanks, digits, numbers. -/
namespace Go.Proofs.YtpakmeegldgjmaaGreat
set_option linter.unusedVariables false

/-- The byte at a place. -/
def ax (l : List UInt8) (j : Nat) : Nat := (l.getD j 0).toNat
theorem ax_lt (l : List UInt8) (j : Nat) : ax l j < 256 := by unfold ax; exact UInt8.toNat_lt _
theorem ax_get {l : List UInt8} {j : Nat} {x : UInt8} (h : l[j]? = some x) : ax l j = x.toNat := by unfold ax; rw [List.getD_eq_getElem?_getD, h]; rfl
theorem ax_el {l : List UInt8} {j : Nat} (h : j < l.length) : ax l j = (l[j]).toNat := ax_get (List.getElem?_eq_getElem h)
theorem ax_cons0 (x : UInt8) (r : List UInt8) : ax (x :: r) 0 = x.toNat := rfl
theorem ax_cons (x : UInt8) (r : List UInt8) (j : Nat) : ax (x :: r) (j + 1) = ax r j := by simp [ax]
theorem ax_drop (l : List UInt8) (k j : Nat) : ax (l.drop k) j = ax l (k + j) := by
  unfold ax
  rw [List.getD_eq_getElem?_getD, List.getD_eq_getElem?_getD, List.getElem?_drop]
theorem any_no {p : UInt8 → Bool} {q : Nat → Bool} (hp : ∀ x, p x = q x.toNat) {l : List UInt8} (h : ∀ j, j < l.length → q (ax l j) = false) : l.any p = false := by
  rw [List.any_eq_false]
  intro x hx
  obtain ⟨i, hi, rfl⟩ := List.mem_iff_getElem.1 hx
  have := h i hi
  rw [ax_el hi, ← hp] at this
  rw [this]
  simp
theorem any_at {p : UInt8 → Bool} {q : Nat → Bool} (hp : ∀ x, p x = q x.toNat) {l : List UInt8} {j : Nat} (hj : j < l.length) (h : q (ax l j) = true) : l.any p = true := by
  rw [List.any_eq_true]
  exact ⟨l[j], List.getElem_mem hj, by rw [hp, ← ax_el hj]; exact h⟩
theorem all_yes {p : UInt8 → Bool} {q : Nat → Bool} (hp : ∀ x, p x = q x.toNat) {l : List UInt8} (h : ∀ j, j < l.length → q (ax l j) = true) : l.all p = true := by
  rw [List.all_eq_true]
  intro x hx
  obtain ⟨i, hi, rfl⟩ := List.mem_iff_getElem.1 hx
  rw [hp, ← ax_el hi]
  exact h i hi
theorem all_at {p : UInt8 → Bool} {q : Nat → Bool} (hp : ∀ x, p x = q x.toNat) {l : List UInt8} {j : Nat} (hj : j < l.length) (h : q (ax l j) = false) : l.all p = false := by
  rw [List.all_eq_false]
  exact ⟨l[j], List.getElem_mem hj, by rw [hp, ← ax_el hj, h]; simp⟩
theorem all_get {p : UInt8 → Bool} {q : Nat → Bool} (hp : ∀ x, p x = q x.toNat) {l : List UInt8} (h : l.all p = true) {j : Nat} (hj : j < l.length) : q (ax l j) = true := by
  rw [ax_el hj, ← hp]
  exact List.all_eq_true.1 h _ (List.getElem_mem hj)
theorem head_ax {l : List UInt8} {p : UInt8 → Bool} {q : Nat → Bool} (hp : ∀ x, p x = q x.toNat) (h : 0 < l.length) : l.head?.any p = q (ax l 0) := by
  cases l with
  | nil => simp at h
  | cons x r => simp [ax_cons0, hp]
theorem last_ax {l : List UInt8} {p : UInt8 → Bool} {q : Nat → Bool} (hp : ∀ x, p x = q x.toNat) (h : 0 < l.length) : l.getLast?.any p = q (ax l (l.length - 1)) := by
  rw [List.getLast?_eq_getElem?, List.getElem?_eq_getElem (by omega), ax_el (by omega)]
  simp [hp]
/-- The first place of a byte; the length: it is not there. -/
def fdN (c : Nat) : List UInt8 → Nat
  | [] => 0
  | x :: r => if x.toNat = c then 0 else fdN c r + 1
theorem fdN_cons (c : Nat) (x : UInt8) (r : List UInt8) : fdN c (x :: r) = if x.toNat = c then 0 else fdN c r + 1 := rfl
theorem splitL_cons (c : Nat) (x : UInt8) (r : List UInt8) : splitL c (x :: r) = if x.toNat = c then [] :: splitL c r else (match splitL c r with | [] => [[x]] | a :: t => (x :: a) :: t) := rfl
theorem fdN_le (c : Nat) (l : List UInt8) : fdN c l ≤ l.length := by
  induction l with
  | nil => exact Nat.le_refl _
  | cons x r ih => unfold fdN; split; exact Nat.zero_le _; simp; exact ih
theorem fdN_hit {c : Nat} {l : List UInt8} {j : Nat} (hj : j < l.length) (h : ∀ i, i < j → ax l i ≠ c) (hc : ax l j = c) : fdN c l = j := by
  induction l generalizing j with
  | nil => simp at hj
  | cons x r ih =>
    unfold fdN
    cases j with
    | zero => rw [if_pos (by simpa [ax_cons0] using hc)]
    | succ j =>
      rw [if_neg (by have := h 0 (by omega); simpa [ax_cons0] using this), ih (by simpa using hj) (fun i hi => by have := h (i + 1) (by omega); rwa [ax_cons] at this) (by rwa [ax_cons] at hc)]
theorem fdN_none {c : Nat} {l : List UInt8} (h : ∀ i, i < l.length → ax l i ≠ c) : fdN c l = l.length := by
  induction l with
  | nil => rfl
  | cons x r ih =>
    unfold fdN
    rw [if_neg (by have := h 0 (by simp); simpa [ax_cons0] using this), ih (fun i hi => by have := h (i + 1) (by simpa using hi); rwa [ax_cons] at this)]
    rfl
theorem hasB_fd (l : List UInt8) (c : Nat) : hasB l c = decide (fdN c l < l.length) := by
  unfold hasB
  induction l with
  | nil => rfl
  | cons x r ih =>
    rw [List.any_cons, ih, fdN_cons]
    by_cases h : x.toNat = c
    · simp [h]
    · have : (x.toNat == c) = false := by simp [h]
      rw [this, if_neg h]
      simp
theorem splitL_fd (c : Nat) (l : List UInt8) : splitL c l = if fdN c l < l.length then l.take (fdN c l) :: splitL c (l.drop (fdN c l + 1)) else [l] := by
  induction l with
  | nil => rfl
  | cons x r ih =>
    rw [splitL_cons, fdN_cons]
    by_cases h : x.toNat = c
    · simp [h]
    · rw [if_neg h, if_neg h, ih]
      by_cases hl : fdN c r < r.length
      · rw [if_pos hl, if_pos (by simpa using hl)]
        simp
      · rw [if_neg hl, if_neg (by simpa using hl)]
theorem splitL_len (c : Nat) (l : List UInt8) : (splitL c l).length ≤ l.length + 1 := by
  induction l with
  | nil => simp [splitL]
  | cons x r ih =>
    unfold splitL
    split
    · simp; omega
    · split
      · simp
      · rename_i a t e
        rw [e] at ih
        simp at ih ⊢
        omega
theorem splitL_el (c : Nat) (l : List UInt8) : ∀ p ∈ splitL c l, p.length ≤ l.length := by
  induction l with
  | nil => intro p hp; simp [splitL] at hp; simp [hp]
  | cons x r ih =>
    intro p hp
    unfold splitL at hp
    split at hp
    · rcases List.mem_cons.1 hp with rfl | hp
      · simp
      · have := ih p hp; simp; omega
    · split at hp
      · simp at hp; simp [hp]
      · rename_i a t e
        rw [e] at ih
        rcases List.mem_cons.1 hp with rfl | hp
        · have := ih a (by simp); simp; omega
        · have := ih p (by simp [hp]); simp; omega
/-- Blanks. -/
def blN (c : Nat) : Bool := c == 32 || c == 9
theorem blankB_n (x : UInt8) : blankB x = blN x.toNat := rfl
def ltr (l : List UInt8) : List UInt8 := l.dropWhile blankB
def rtr (l : List UInt8) : List UInt8 := (l.reverse.dropWhile blankB).reverse
def trimL (l : List UInt8) : List UInt8 := rtr (ltr l)
theorem ltr_drop {m : List UInt8} (h : 0 < m.length) (hb : blN (ax m 0) = true) : ltr (m.drop 1) = ltr m := by
  cases m with
  | nil => simp at h
  | cons x r =>
    rw [ax_cons0, ← blankB_n] at hb
    unfold ltr
    rw [List.dropWhile_cons, if_pos hb]
    rfl
theorem ltr_stop {m : List UInt8} (h : 0 < m.length) (hb : blN (ax m 0) = false) : ltr m = m := by
  cases m with
  | nil => simp at h
  | cons x r =>
    rw [ax_cons0, ← blankB_n] at hb
    unfold ltr
    rw [List.dropWhile_cons, hb]
    rfl
theorem last_split {m : List UInt8} (h : 0 < m.length) : m = m.take (m.length - 1) ++ [m[m.length - 1]] := by
  have h1 := List.take_append_drop (m.length - 1) m
  rw [List.drop_eq_getElem_cons (by omega), List.drop_of_length_le (by omega)] at h1
  exact h1.symm
theorem rtr_take {m : List UInt8} (h : 0 < m.length) (hb : blN (ax m (m.length - 1)) = true) : rtr (m.take (m.length - 1)) = rtr m := by
  rw [ax_el (by omega), ← blankB_n] at hb
  have e := last_split h
  generalize m.take (m.length - 1) = t at *
  generalize m[m.length - 1] = z at *
  rw [e]
  unfold rtr
  rw [List.reverse_append]
  simp [hb]
theorem rtr_stop {m : List UInt8} (h : 0 < m.length) (hb : blN (ax m (m.length - 1)) = false) : rtr m = m := by
  rw [ax_el (by omega), ← blankB_n] at hb
  have e := last_split h
  generalize m.take (m.length - 1) = t at *
  generalize m[m.length - 1] = z at *
  rw [e]
  unfold rtr
  rw [List.reverse_append]
  simp [hb]
theorem ltr_len (l : List UInt8) : (ltr l).length ≤ l.length := by
  unfold ltr
  exact (List.dropWhile_sublist _).length_le
theorem rtr_len (l : List UInt8) : (rtr l).length ≤ l.length := by
  unfold rtr
  rw [List.length_reverse]
  exact Nat.le_trans (List.dropWhile_sublist _).length_le (by simp)
theorem trim_ends (l : List UInt8) : decide (trimL l = l) = endsB l := by
  unfold endsB
  by_cases h0 : 0 < l.length
  · rw [head_ax blankB_n h0, last_ax blankB_n h0]
    cases hb : blN (ax l 0) with
    | true =>
      have h1 := ltr_drop h0 hb
      have h2 : (trimL l).length < l.length := by
        unfold trimL
        have h3 := rtr_len (ltr l)
        rw [← h1] at h3
        have h4 := ltr_len (l.drop 1)
        rw [List.length_drop] at h4
        rw [← h1]
        omega
      rw [decide_eq_false (fun e => by rw [e] at h2; omega)]
      rfl
    | false =>
      unfold trimL
      rw [ltr_stop h0 hb]
      cases hc : blN (ax l (l.length - 1)) with
      | true =>
        have h1 := rtr_take h0 hc
        have h2 := rtr_len (l.take (l.length - 1))
        rw [List.length_take] at h2
        rw [h1] at h2
        rw [decide_eq_false (fun e => by rw [e] at h2; omega)]
        rfl
      | false =>
        rw [rtr_stop h0 hc, decide_eq_true rfl]
        rfl
  · cases l with
    | nil => rfl
    | cons x r => simp at h0
/-- Digits. -/
def dgT (c : Nat) : Bool := decide (48 ≤ c) && decide (c ≤ 57)
theorem digB_n (x : UInt8) : digB x = dgT x.toNat := rfl
def dgN : List UInt8 → Nat
  | [] => 0
  | x :: r => if digB x = true then dgN r + 1 else 0
theorem dgN_cons (x : UInt8) (r : List UInt8) : dgN (x :: r) = if digB x = true then dgN r + 1 else 0 := rfl
theorem dgN_le (l : List UInt8) : dgN l ≤ l.length := by
  induction l with
  | nil => exact Nat.le_refl _
  | cons x r ih => unfold dgN; split; simp; exact ih; exact Nat.zero_le _
theorem dgN_hit {l : List UInt8} {j : Nat} (hj : j ≤ l.length) (h : ∀ i, i < j → dgT (ax l i) = true) (hs : j < l.length → dgT (ax l j) = false) : dgN l = j := by
  induction l generalizing j with
  | nil => simp at hj; rw [hj]; rfl
  | cons x r ih =>
    unfold dgN
    cases j with
    | zero =>
      have := hs (by simp)
      rw [ax_cons0, ← digB_n] at this
      rw [this]
      rfl
    | succ j =>
      have := h 0 (by omega)
      rw [ax_cons0, ← digB_n] at this
      rw [if_pos this, ih (by simpa using hj) (fun i hi => by have := h (i + 1) (by omega); rwa [ax_cons] at this) (fun hl => by have := hs (by simpa using hl); rwa [ax_cons] at this)]
theorem all_dgN (l : List UInt8) : l.all digB = decide (dgN l = l.length) := by
  induction l with
  | nil => rfl
  | cons x r ih =>
    rw [List.all_cons, ih, dgN_cons]
    cases h : digB x with
    | true => simp
    | false => simp
theorem numL_step {l : List UInt8} {j : Nat} (h : j < l.length) : numL (l.take (j + 1)) = min (numL (l.take j) * 10 + (ax l j - 48)) 1099511627776 := by
  rw [List.take_add_one, List.getElem?_eq_getElem h, ax_el h]
  unfold numL numF
  rw [Option.toList_some, List.foldl_append]
  rfl
theorem numL_nil : numL [] = 0 := rfl
theorem numL_le (l : List UInt8) : numL l ≤ 1099511627776 := numF_le l 0 (by omega)
/-- Signs of a label. -/
def sgN (c : Nat) : Bool := (decide (97 ≤ c) && decide (c ≤ 122)) || (decide (48 ≤ c) && decide (c ≤ 57)) || c == 45 || c == 95
theorem signB_n (x : UInt8) : signB x = sgN x.toNat := rfl
/-- May a byte be in a label, at an end of it or within? -/
def sgE (c : Nat) (e : Bool) : Bool := if c = 45 then !e else sgN c
theorem label_ax (l : List UInt8) : labelB l = (decide (1 ≤ l.length) && decide (l.length ≤ 63) && l.all signB && !(ax l 0 == 45) && !(ax l (l.length - 1) == 45)) := by
  unfold labelB
  by_cases h0 : 0 < l.length
  · rw [head_ax (q := fun n => n == 45) (fun x => rfl) h0, last_ax (q := fun n => n == 45) (fun x => rfl) h0]
  · have : decide (1 ≤ l.length) = false := decide_eq_false (by omega)
    rw [this]
    rfl
theorem label_yes {l : List UInt8} (h1 : 1 ≤ l.length) (h2 : l.length ≤ 63) (h : ∀ j, j < l.length → sgE (ax l j) (decide (j = 0) || decide (j = l.length - 1)) = true) : labelB l = true := by
  rw [label_ax, decide_eq_true h1, decide_eq_true h2, all_yes signB_n (fun j hj => by
    have := h j hj
    unfold sgE at this
    split at this
    · rename_i e; rw [e]; rfl
    · exact this)]
  have h3 := h 0 (by omega)
  have h4 := h (l.length - 1) (by omega)
  unfold sgE at h3 h4
  by_cases e3 : ax l 0 = 45
  · rw [if_pos e3] at h3; simp at h3
  · by_cases e4 : ax l (l.length - 1) = 45
    · rw [if_pos e4] at h4; simp at h4
    · simp [e3, e4]
theorem label_at {l : List UInt8} {j : Nat} (hj : j < l.length) (h : sgE (ax l j) (decide (j = 0) || decide (j = l.length - 1)) = false) : labelB l = false := by
  rw [label_ax]
  unfold sgE at h
  by_cases e : ax l j = 45
  · rw [if_pos e] at h
    simp at h
    by_cases h0 : j = 0
    · subst h0; simp [e]
    · obtain rfl := h h0
      simp [e]
  · rw [if_neg e] at h
    rw [all_at signB_n hj h]
    simp
def ctN (c : Nat) : Bool := (decide (c < 32) && c != 9) || c == 127
theorem ctlB_q (x : UInt8) : ctlB x = ctN x.toNat := rfl
def hxN (c : Nat) : Bool := (decide (48 ≤ c) && decide (c ≤ 57)) || (decide (97 ≤ c) && decide (c ≤ 102)) || c == 58 || c == 46
theorem hexB_n (x : UInt8) : hexB x = hxN x.toNat := rfl
theorem brack_ax (l : List UInt8) : brackB l = (decide (4 ≤ l.length) && decide (l.length ≤ 47) && (ax l 0 == 91) && (ax l (l.length - 1) == 93) && ((l.drop 1).take (l.length - 2)).all hexB) := by
  unfold brackB
  by_cases h0 : 0 < l.length
  · rw [head_ax (q := fun n => n == 91) (fun x => rfl) h0, last_ax (q := fun n => n == 93) (fun x => rfl) h0]
  · have : decide (4 ≤ l.length) = false := decide_eq_false (by omega)
    rw [this]
    rfl
theorem mid_lenB {l : List UInt8} (h : 4 ≤ l.length) : ((l.drop 1).take (l.length - 2)).length = l.length - 2 := by simp; omega
theorem mid_ax {l : List UInt8} {j : Nat} (h : j + 2 < l.length) : ax ((l.drop 1).take (l.length - 2)) j = ax l (j + 1) := by
  unfold ax
  rw [List.getD_eq_getElem?_getD, List.getElem?_take, if_pos (by omega), List.getElem?_drop, List.getD_eq_getElem?_getD, Nat.add_comm]
end Go.Proofs.YtpakmeegldgjmaaGreat
/- Texts as values: their bytes, parts, equality; layer 6 (ascii), of bytes: blank, digit, lower; layer 8 (host): sign. -/
namespace Go.Proofs.YtpakmeegldgjmaaGreat
open Go.RowKit
set_option linter.unusedVariables false
set_option maxRecDepth 100000

section
variable {P : Program} (w : World) (t : TypeId) (l m : List UInt8) (k k' : IntKind) (i j : Int)
theorem idx_bs (h : P.underlying t = some .string) (h0 : 0 ≤ i) (h1 : i < (l.length : Int)) : (Instr.index t (.string (bs l)) (.int k i)).run P w = .ok (.int .u8 (ax l i.toNat : Int)) w := by
  have hs : (bs l).size = l.length := rfl
  rw [run_index_string w t (bs l) k i h, dif_pos ⟨h0, by rw [hs]; exact h1⟩]
  have hi : i.toNat < l.length := by omega
  have e : (bs l)[i.toNat]'(by rw [hs]; exact hi) = l[i.toNat] := by
    show (bs l).data[i.toNat]'_ = _
    simp [bs]
  rw [e, ← ax_el hi]
theorem bs_cut (a b : Nat) : (bs l).extract a b = bs ((l.drop a).take (b - a)) := ByteArray.extract_mk l a b
theorem cut_bs (h : P.underlying t = some .string) (h0 : 0 ≤ i) (h1 : i ≤ j) (h2 : j ≤ (l.length : Int)) : (Instr.slice t (.string (bs l)) (some (.int k i)) (some (.int k' j)) none).run P w = .ok (.string (bs ((l.drop i.toNat).take (j.toNat - i.toNat)))) w := by
  rw [run_slice_string w t (bs l) k k' i j h h0 h1 h2, bs_cut]
theorem cut_from (h : P.underlying t = some .string) (h0 : 0 ≤ i) (h1 : i ≤ (l.length : Int)) : (Instr.slice t (.string (bs l)) (some (.int k i)) none none).run P w = .ok (.string (bs (l.drop i.toNat))) w := by
  have hj : 0 ≤ i ∧ i ≤ ((l.length : Nat) : Int) := ⟨h0, h1⟩
  have e : (bs l).extract i.toNat l.length = bs (l.drop i.toNat) := by rw [bs_cut, List.take_of_length_le (by simp)]
  have hs : (bs l).size = l.length := rfl
  simp [Instr.slice, Instr.sliceBounds, Instr.sliceBound, asIntOf, run_underlying h, hj, hs, e]
theorem cut_to (h : P.underlying t = some .string) (h0 : 0 ≤ j) (h1 : j ≤ (l.length : Int)) : (Instr.slice t (.string (bs l)) none (some (.int k j)) none).run P w = .ok (.string (bs (l.take j.toNat))) w := by
  have hj : 0 ≤ j ∧ j ≤ ((l.length : Nat) : Int) := ⟨h0, h1⟩
  have e : (bs l).extract 0 j.toNat = bs (l.take j.toNat) := by rw [bs_cut]; simp
  have hs : (bs l).size = l.length := rfl
  simp [Instr.slice, Instr.sliceBounds, Instr.sliceBound, asIntOf, run_underlying h, hj, hs, e]
theorem bs_list : (bs l).toList = l := ByteArray.toList_mk l
theorem bs_nil_list : (ByteArray.mk #[]).toList = [] := ByteArray.toList_mk []
end
theorem bs_get (l : List UInt8) (i : Nat) (h : i < (bs l).size) : ((bs l)[i]'h).toNat = ax l i := by
  have hi : i < l.length := h
  rw [ax_el hi]
  show ((bs l).data[i]'_).toNat = _
  simp [bs]
theorem ne_nil_beq {l : List UInt8} (h : 0 < l.length) : (l == []) = false := by cases l with | nil => simp at h | cons x r => rfl
attribute [local go_sem high] idx_bs cut_bs cut_from cut_to
attribute [local go_sem] bs_size bs_list bs_nil_list bs_get bs_cut

theorem blank_any (c : Nat) (w : World) : Calls Tryz.prog 164 #[.int .u8 (c : Int)] w fun e w' => e = .returned (.bool (blN c)) ∧ w = w' := by
  unfold blN
  by_cases h1 : c = 32
  · subst h1
    go_enter Tryz.func164, Tryz.ntmps164
    go_wp2
    go_ret
    exact ⟨rfl, rfl⟩
  · have t1 : ((c : Int) == 32) = false := by simp; omega
    have t2 : (c == 32) = false := by simp [h1]
    rw [t2]
    by_cases h2 : c = 9
    · subst h2
      go_enter Tryz.func164, Tryz.ntmps164
      go_wp2
      go_ret
      exact ⟨rfl, rfl⟩
    · have t3 : ((c : Int) == 9) = false := by simp; omega
      have t4 : (c == 9) = false := by simp [h2]
      rw [t4]
      go_enter Tryz.func164, Tryz.ntmps164
      go_wp2
      go_ret
      exact ⟨rfl, rfl⟩
theorem digit_any (c : Nat) (w : World) : Calls Tryz.prog 185 #[.int .u8 (c : Int)] w fun e w' => e = .returned (.bool (dgT c)) ∧ w = w' := by
  unfold dgT
  by_cases h1 : 48 ≤ c
  · have t1 : decide ((48 : Int) ≤ (c : Int)) = true := by simp; omega
    rw [decide_eq_true h1]
    by_cases h2 : c ≤ 57
    · have t3 : decide ((c : Int) ≤ 57) = true := by simp; omega
      rw [decide_eq_true h2]
      go_enter Tryz.func185, Tryz.ntmps185
      go_wp2
      go_ret
      exact ⟨rfl, rfl⟩
    · have t3 : decide ((c : Int) ≤ 57) = false := by simp; omega
      rw [decide_eq_false h2]
      go_enter Tryz.func185, Tryz.ntmps185
      go_wp2
      go_ret
      exact ⟨rfl, rfl⟩
  · have t1 : decide ((48 : Int) ≤ (c : Int)) = false := by simp; omega
    rw [decide_eq_false h1]
    go_enter Tryz.func185, Tryz.ntmps185
    go_wp2
    go_ret
    exact ⟨rfl, rfl⟩
def lowN (c : Nat) : Nat := if 65 ≤ c ∧ c ≤ 90 then c + 32 else c
theorem lowN_ax (l : List UInt8) (j : Nat) (hj : j < l.length) : ax (lowL l) j = lowN (ax l j) := by
  have hj' : j < (lowL l).length := by rw [lowL_len]; exact hj
  rw [ax_el hj', ax_el hj]
  have e : (lowL l)[j] = lowB l[j] := by simp [lowL]
  rw [e]
  unfold lowB lowN
  split
  · rw [UInt8.toNat_ofNat']
    omega
  · rfl
theorem lower_any (c : Nat) (hc : c < 256) (w : World) : Calls Tryz.prog 159 #[.int .u8 (c : Int)] w fun e w' => e = .returned (.int .u8 (lowN c : Int)) ∧ w = w' := by
  unfold lowN
  by_cases h1 : 65 ≤ c
  · have t1 : decide ((65 : Int) ≤ (c : Int)) = true := by simp; omega
    by_cases h2 : c ≤ 90
    · have t3 : decide ((c : Int) ≤ 90) = true := by simp; omega
      have t4 : IntKind.u8.wrap ((c : Int) + 97) = (c : Int) + 97 := by rw [IntKind.wrap_u8]; omega
      have t5 : IntKind.u8.wrap ((c : Int) + 97 - 65) = ((c + 32 : Nat) : Int) := by rw [IntKind.wrap_u8]; omega
      rw [if_pos ⟨h1, h2⟩]
      generalize c + 32 = r at *
      go_enter Tryz.func159, Tryz.ntmps159
      go_wp2
      go_ret
      exact ⟨by first | rfl | simp [t4, t5], rfl⟩
    · have t3 : decide ((c : Int) ≤ 90) = false := by simp; omega
      rw [if_neg (by omega)]
      go_enter Tryz.func159, Tryz.ntmps159
      go_wp2
      go_ret
      exact ⟨rfl, rfl⟩
  · have t1 : decide ((65 : Int) ≤ (c : Int)) = false := by simp; omega
    rw [if_neg (by omega)]
    go_enter Tryz.func159, Tryz.ntmps159
    go_wp2
    go_ret
    exact ⟨rfl, rfl⟩
theorem find_any (l : List UInt8) (c : Nat) (hl : l.length ≤ 1000000) (w : World) : Calls Tryz.prog 165 #[.string (bs l), .int .u8 (c : Int)] w fun e w' => e = .returned (.int .i64 (if fdN c l < l.length then (fdN c l : Int) else -1)) ∧ w = w' := by
  go_enter Tryz.func165, Tryz.ntmps165
  go_wp2
  go_step3
  go_wp2
  go_step3
  go_wp2
  go_loop [5, 9] (fun v i => v = .int .i64 (-1) ∧ ∃ j : Nat, j ≤ l.length ∧ i = .int .i64 j ∧ ∀ k, k < j → ax l k ≠ c) (fun _ i => l.length - (intOf i).toNat)
  case atStart => exact ⟨rfl, 0, by omega, rfl, fun k hk => absurd hk (by omega)⟩
  case round =>
    obtain ⟨rfl, j, hj, rfl, hk⟩ := hrel
    by_cases hlt : j < l.length
    · by_cases hx : ax l j = c
      · have hf := fdN_hit hlt hk hx
        subst hx
        go_wp2
        go_ret
        exact ⟨by first | rfl | (rw [hf, if_pos hlt]; rfl), rfl⟩
      · have t1 : ((ax l j : Int) == (c : Int)) = false := by simp; omega
        go_wp2
        go_round
        case rel => exact ⟨rfl, j + 1, by omega, by go_num, fun k hk' => by
          by_cases hkj : k = j
          · subst hkj; exact hx
          · exact hk k (by omega)⟩
        case measure => simp [intOf]; omega
    · have hf := fdN_none (c := c) (l := l) (fun k hk' => hk k (by omega))
      go_wp2
      go_ret
      exact ⟨by first | rfl | (rw [hf, if_neg (Nat.lt_irrefl _)]; rfl), rfl⟩
theorem control_any (l : List UInt8) (hl : l.length ≤ 1000000) (w : World) : Calls Tryz.prog 141 #[.string (bs l)] w fun e w' => e = .returned (.bool (ctlL l)) ∧ w = w' := by
  go_enter Tryz.func141, Tryz.ntmps141
  go_wp2
  go_loop [6] (fun i => ∃ j : Nat, j ≤ l.length ∧ i = .int .i64 j ∧ ∀ k, k < j → ctN (ax l k) = false) (fun i => l.length - (intOf i).toNat)
  case atStart => exact ⟨0, by omega, rfl, fun k hk => absurd hk (by omega)⟩
  case round =>
    obtain ⟨j, hj, rfl, hk⟩ := hrel
    by_cases hlt : j < l.length
    · cases hx : ctN (ax l j) with
      | true =>
        have hf : ctlL l = true := any_at ctlB_q hlt hx
        have HF := Lib.hid hf
        clear hf
        unfold ctN at hx
        by_cases h32 : ax l j < 32
        · by_cases h9 : ax l j = 9
          · rw [h9] at hx; simp at hx
          · have t1 : decide ((ax l j : Int) < 32) = true := by simp; omega
            have t2 : ((ax l j : Int) != 9) = true := by simp; omega
            go_wp2
            go_ret
            exact ⟨by rw [HF.out]; rfl, rfl⟩
        · have hc : ax l j = 127 := by simp [h32] at hx; exact hx
          go_wp2
          go_ret
          exact ⟨by rw [HF.out]; rfl, rfl⟩
      | false =>
        have hf : ∀ k, k < j + 1 → ctN (ax l k) = false := fun k hk' => by
          by_cases hkj : k = j
          · subst hkj; exact hx
          · exact hk k (by omega)
        unfold ctN at hx
        have HF := Lib.hid hf
        clear hk hf
        have h127 : ((ax l j : Int) == 127) = false := by
          simp
          intro e
          have e' : ax l j = 127 := by omega
          rw [e'] at hx
          simp at hx
        by_cases h32 : ax l j < 32
        · have h9 : ax l j = 9 := by simp [h32] at hx; exact hx.1
          go_wp2
          go_round
          case rel => exact ⟨j + 1, by omega, by go_num, HF.out⟩
          case measure => simp [intOf]; omega
        · have t1 : decide ((ax l j : Int) < 32) = false := by simp; omega
          go_wp2
          go_round
          case rel => exact ⟨j + 1, by omega, by go_num, HF.out⟩
          case measure => simp [intOf]; omega
    · have hf : ctlL l = false := any_no ctlB_q (fun k hk' => hk k (by omega))
      have HF := Lib.hid hf
      clear hf
      go_wp2
      go_ret
      exact ⟨by rw [HF.out]; rfl, rfl⟩
end Go.Proofs.YtpakmeegldgjmaaGreat
