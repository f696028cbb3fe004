/- Keys that are actors and dots: what they read as. -/
import Derived.Test.YtailbppddnegoaaQM
import Derived.ChangeKeysEq
import Derived.DeepKeys2
import Derived.Test.YtailbppddnegoaaProg
namespace Go.Proofs.Ytailbppddnegoaa
open Go.RowKit
set_option linter.unusedVariables false
set_option maxRecDepth 100000

theorem keyLits_i64 {P : Program} {d : Nat} {t : TypeId} (hu : P.underlying t = some (.int .i64)) {cs : List Value} {l : List Lit} (h : P.keyLits d t cs = some l) : ∃ n, cs = [.int .i64 n] ∧ (Lit.int .i64 n).wf = true := by
  cases d with
  | zero => simp [Program.keyLits] at h
  | succ d =>
    obtain ⟨n, rfl, rfl⟩ := keyLits_int' hu h
    unfold Program.keyLits at h
    rw [hu] at h
    simp only at h
    split at h
    · rename_i hw
      exact ⟨n, rfl, hw.2⟩
    · cases h
theorem keyLits_i64_mk {P : Program} {d : Nat} {t : TypeId} (hu : P.underlying t = some (.int .i64)) {n : Int} (hw : (Lit.int .i64 n).wf = true) : P.keyLits (d + 1) t [.int .i64 n] = some [.int .i64 n] := by
  unfold Program.keyLits
  rw [hu]
  simp [hw]
/-- An actor's cells, its value; may it be a key? -/
def acC (a : Ac) : List Value := [.int .i64 a.1, .int .i64 a.2]
def acV (a : Ac) : Value := .agg #[.int .i64 a.1, .int .i64 a.2]
def acOk (a : Ac) : Prop := (Lit.int .i64 a.1).wf = true ∧ (Lit.int .i64 a.2).wf = true
/-- A dot's. -/
def dtC (x : Dt) : List Value := [.int .i64 x.1.1, .int .i64 x.1.2, .int .i64 x.2]
def dtV (x : Dt) : Value := .agg #[.int .i64 x.1.1, .int .i64 x.1.2, .int .i64 x.2]
def dtOk (x : Dt) : Prop := (Lit.int .i64 x.1.1).wf = true ∧ (Lit.int .i64 x.1.2).wf = true ∧ (Lit.int .i64 x.2).wf = true
theorem actor_lits (m : Nat) (xs : List Value) (l : List Lit) (h : Try.prog.keyLits (m + 1) 25 xs = some l) : ∃ a, acOk a ∧ xs = [.int .i64 a.1, .int .i64 a.2] := by
  have hc : Try.prog.cellsOf 25 = 2 := by kernel_rfl
  have hi : Try.prog.cellsOf 3 = 1 := by kernel_rfl
  unfold Program.keyLits at h
  rw [Try.underlying25] at h
  simp only [hc] at h
  split at h
  · rename_i hl
    obtain ⟨hl, _⟩ := hl
    obtain ⟨x, y, rfl⟩ : ∃ x y, xs = [x, y] := by
      match xs, hl with
      | [x, y], _ => exact ⟨x, y, rfl⟩
    simp [hi, List.mapM_cons, Option.bind_eq_some_iff] at h
    obtain ⟨a, ha, b, ⟨a', hb, _⟩, _⟩ := h
    obtain ⟨n1, e1, w1⟩ := keyLits_i64 Try.underlying3 ha
    obtain ⟨n2, e2, w2⟩ := keyLits_i64 Try.underlying3 hb
    simp at e1 e2
    subst e1 e2
    exact ⟨(n1, n2), ⟨w1, w2⟩, rfl⟩
  · cases h
theorem actor_lits_mk (m : Nat) (a : Ac) (h : acOk a) : Try.prog.keyLits (m + 2) 25 [.int .i64 a.1, .int .i64 a.2] = some [.int .i64 a.1, .int .i64 a.2] := by
  have hc : Try.prog.cellsOf 25 = 2 := by kernel_rfl
  have hi : Try.prog.cellsOf 3 = 1 := by kernel_rfl
  have k1 := keyLits_i64_mk (d := m) Try.underlying3 h.1
  have k2 := keyLits_i64_mk (d := m) Try.underlying3 h.2
  unfold Program.keyLits
  rw [Try.underlying25]
  simp [hc, hi, List.mapM_cons, k1, k2]
theorem actor_wide : (match Try.prog.underlying 25 with | some (.array _ _) | some (.struct _) => true | _ => false) = true := by rw [Try.underlying25]
theorem size_big : ∃ m, Try.prog.types.size = m + 3 := ⟨Try.prog.types.size - 3, by
  have h : 3 ≤ Try.prog.types.size := of_decide_eq_true (by kernel_rfl)
  omega⟩
theorem laidOutK : laidOutB Try.prog = true := by kernel_rfl
theorem actor_key : KeyT Try.prog 25 acV acOk where
  law := Maps.Keyed.of_law (deep_law_laid laidOutK (m := 3) (by omega) (of_decide_eq_true (by kernel_rfl)) (by kernel_rfl) actor_wide)
  of a h := by
    obtain ⟨m, hm⟩ := size_big
    have hk : Try.prog.keyType 25 = true := by kernel_rfl
    have hc : Try.prog.cellsOf 25 = 2 := by kernel_rfl
    have hf : (acV a).formed Try.prog 25 = true := by
      unfold acV Value.formed
      simp only [Try.underlying25, hc]
      rfl
    have hl := actor_lits_mk (m + 2) a h
    rw [show m + 2 + 2 = m + 3 + 1 by omega, ← hm] at hl
    have hcs : (acV a).cells.toList = [.int .i64 a.1, .int .i64 a.2] := by simp [acV, Value.cells]
    refine ⟨.string (keyBytes [.int .i64 a.1, .int .i64 a.2]), ?_⟩
    unfold keyOf
    rw [Try.underlying25]
    rw [← hcs] at hl
    simp only [hk, hf, Bool.and_self, if_true, hl, Option.map_some]
  inv v l h := by
    obtain ⟨xs, L, rfl, hL, _⟩ := keyOf_top actor_wide h
    obtain ⟨a, ha, hx⟩ := actor_lits _ _ _ hL
    refine ⟨a, ha, ?_⟩
    unfold acV
    congr 1
    apply Array.toList_inj.1
    simpa using hx
  inj a b h := by
    simp [acV] at h
    exact Prod.ext h.1 h.2
theorem dot_lits (m : Nat) (xs : List Value) (l : List Lit) (h : Try.prog.keyLits (m + 1) 27 xs = some l) : ∃ a, dtOk a ∧ xs = dtC a := by
  have hc : Try.prog.cellsOf 27 = 3 := by kernel_rfl
  have ha : Try.prog.cellsOf 25 = 2 := by kernel_rfl
  have hi : Try.prog.cellsOf 3 = 1 := by kernel_rfl
  unfold Program.keyLits at h
  rw [Try.underlying27] at h
  simp only [hc] at h
  split at h
  · rename_i hl
    obtain ⟨hl, _⟩ := hl
    obtain ⟨x, y, z, rfl⟩ : ∃ x y z, xs = [x, y, z] := by
      match xs, hl with
      | [x, y, z], _ => exact ⟨x, y, z, rfl⟩
    simp [hi, ha, List.mapM_cons, Option.bind_eq_some_iff] at h
    obtain ⟨a, h1, b, ⟨a', h2, _⟩, _⟩ := h
    cases m with
    | zero => simp [Program.keyLits] at h1
    | succ m =>
      obtain ⟨p, hp, e1⟩ := actor_lits m _ _ h1
      obtain ⟨n2, e2, w2⟩ := keyLits_i64 Try.underlying3 h2
      simp at e1 e2
      obtain ⟨rfl, rfl⟩ := e1
      subst e2
      exact ⟨(p, n2), ⟨hp.1, hp.2, w2⟩, rfl⟩
  · cases h
theorem dot_lits_mk (m : Nat) (a : Dt) (h : dtOk a) : Try.prog.keyLits (m + 3) 27 [.int .i64 a.1.1, .int .i64 a.1.2, .int .i64 a.2] = some [.int .i64 a.1.1, .int .i64 a.1.2, .int .i64 a.2] := by
  have hc : Try.prog.cellsOf 27 = 3 := by kernel_rfl
  have ha : Try.prog.cellsOf 25 = 2 := by kernel_rfl
  have hi : Try.prog.cellsOf 3 = 1 := by kernel_rfl
  have k1 := actor_lits_mk m a.1 ⟨h.1, h.2.1⟩
  have k2 := keyLits_i64_mk (d := m + 1) Try.underlying3 h.2.2
  unfold Program.keyLits
  rw [Try.underlying27]
  simp [hc, ha, hi, List.mapM_cons, k1, k2]
theorem dot_wide : (match Try.prog.underlying 27 with | some (.array _ _) | some (.struct _) => true | _ => false) = true := by rw [Try.underlying27]
theorem dot_key : KeyT Try.prog 27 dtV dtOk where
  law := Maps.Keyed.of_law (deep_law_laid laidOutK (m := 3) (by omega) (of_decide_eq_true (by kernel_rfl)) (by kernel_rfl) dot_wide)
  of a h := by
    obtain ⟨m, hm⟩ := size_big
    have hk : Try.prog.keyType 27 = true := by kernel_rfl
    have hc : Try.prog.cellsOf 27 = 3 := by kernel_rfl
    have hf : (dtV a).formed Try.prog 27 = true := by
      unfold dtV Value.formed
      simp only [Try.underlying27, hc]
      rfl
    have hl := dot_lits_mk (m + 1) a h
    rw [show m + 1 + 3 = m + 3 + 1 by omega, ← hm] at hl
    have hcs : (dtV a).cells.toList = [.int .i64 a.1.1, .int .i64 a.1.2, .int .i64 a.2] := by simp [dtV, Value.cells]
    refine ⟨.string (keyBytes [.int .i64 a.1.1, .int .i64 a.1.2, .int .i64 a.2]), ?_⟩
    unfold keyOf
    rw [Try.underlying27]
    rw [← hcs] at hl
    simp only [hk, hf, Bool.and_self, if_true, hl, Option.map_some]
  inv v l h := by
    obtain ⟨xs, L, rfl, hL, _⟩ := keyOf_top dot_wide h
    obtain ⟨a, ha, hx⟩ := dot_lits _ _ _ hL
    refine ⟨a, ha, ?_⟩
    unfold dtV
    congr 1
    apply Array.toList_inj.1
    simpa [dtC] using hx
  inj a b h := by
    simp [dtV] at h
    exact Prod.ext (Prod.ext h.1 h.2.1) h.2.2
end Go.Proofs.Ytailbppddnegoaa
