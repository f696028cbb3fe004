/- Dots, or marks, as cells: a slice that reads as a list of them. -/
import Derived.Test.YtailbppddnegoaaM2
import Derived.Test.YtailbppddnegoaaW5
namespace Go.Proofs.Ytailbppddnegoaa
open Go.RowKit
set_option linter.unusedVariables false
set_option maxRecDepth 100000

theorem flatMap_at {α : Type} (enc : α → List Value) (k : Nat) (hk : ∀ x, (enc x).length = k) (l : List α) (t : Nat) : (l.flatMap enc)[t]? = (l[t / k]?).bind fun x => (enc x)[t % k]? := by
  induction l generalizing t with
  | nil => simp
  | cons x r ih =>
    rw [List.flatMap_cons]
    by_cases h : t < k
    · rw [List.getElem?_append_left (by rw [hk]; exact h), Nat.div_eq_of_lt h, Nat.mod_eq_of_lt h]
      rfl
    · have hk0 : 0 < k ∨ k = 0 := by omega
      rcases hk0 with hk0 | hk0
      · obtain ⟨u, rfl⟩ : ∃ u, t = u + k := ⟨t - k, by omega⟩
        rw [List.getElem?_append_right (by rw [hk]; omega), hk, Nat.add_sub_cancel, ih, Nat.add_div_right _ hk0, Nat.add_mod_right]
        rfl
      · subst hk0
        have hz : ∀ y, enc y = [] := fun y => List.eq_nil_of_length_eq_zero (hk y)
        rw [hz, List.nil_append, ih]
        simp [hz]
theorem flatMap_len {α : Type} (enc : α → List Value) (k : Nat) (hk : ∀ x, (enc x).length = k) (l : List α) : (l.flatMap enc).length = l.length * k := by
  induction l with
  | nil => simp
  | cons x r ih => rw [List.flatMap_cons, List.length_append, ih, hk, List.length_cons, Nat.add_mul]; omega
theorem wf_of {n : Int} (h1 : -9223372036854775808 ≤ n) (h2 : n ≤ 9223372036854775807) : (Lit.int .i64 n).wf = true := by
  have e1 : IntKind.i64.min = -9223372036854775808 := by decide
  have e2 : IntKind.i64.max = 9223372036854775807 := by decide
  simp only [Lit.wf, e1, e2, Bool.and_eq_true, decide_eq_true_eq]
  exact ⟨h1, h2⟩
/-- Dots, or marks, as cells. -/
def dts (L : List Dt) : List Value := L.flatMap dtC
theorem dtC_len (x : Dt) : (dtC x).length = 3 := rfl
theorem dts_len (L : List Dt) : (dts L).length = L.length * 3 := flatMap_len dtC 3 dtC_len L
theorem dts_get {L : List Dt} {i : Nat} {x : Dt} (h : L[i]? = some x) : (dts L)[i * 3]? = some (.int .i64 x.1.1) ∧ (dts L)[i * 3 + 1]? = some (.int .i64 x.1.2) ∧ (dts L)[i * 3 + 2]? = some (.int .i64 x.2) := by
  have e := flatMap_at dtC 3 dtC_len L
  unfold dts
  rw [e, e, e, show i * 3 / 3 = i by omega, show (i * 3 + 1) / 3 = i by omega, show (i * 3 + 2) / 3 = i by omega, show i * 3 % 3 = 0 by omega, show (i * 3 + 1) % 3 = 1 by omega, show (i * 3 + 2) % 3 = 2 by omega, h]
  exact ⟨rfl, rfl, rfl⟩
/-- A slice that reads as dots (or marks). -/
def Ds (w : World) (B : Nat) (A : Option Addr) (L : List Dt) : Prop := Rd w B 3 A L.length (dts L)
theorem Ds.below {w w' : World} {B : Nat} {A : Option Addr} {L : List Dt} (h : Ds w B A L) (hb : Below B w w') : Ds w' B A L := Rd.below h hb
theorem Ds.more {w : World} {B B' : Nat} {A : Option Addr} {L : List Dt} (h : Ds w B A L) (hb : B ≤ B') : Ds w B' A L := Rd.more h hb
theorem Ds.at_ {w : World} {B i : Nat} {A : Option Addr} {L : List Dt} {x : Dt} (h : Ds w B A L) (hx : L[i]? = some x) : ∃ b o, A = some ⟨b, o, none⟩ ∧ b < B ∧ w.cell? ⟨b, o + i * 3, none⟩ = some (.int .i64 x.1.1) ∧ w.cell? ⟨b, o + i * 3 + 1, none⟩ = some (.int .i64 x.1.2) ∧ w.cell? ⟨b, o + i * 3 + 2, none⟩ = some (.int .i64 x.2) := by
  have hi : i < L.length := (List.getElem?_eq_some_iff.1 hx).1
  obtain ⟨b, o, hA, hb, hc⟩ := h.2 (by omega)
  obtain ⟨e0, e1, e2⟩ := dts_get hx
  exact ⟨b, o, hA, hb, hc _ _ e0, by rw [Nat.add_assoc]; exact hc _ _ e1, by rw [Nat.add_assoc]; exact hc _ _ e2⟩
theorem Own.ds {w : World} {base c : Nat} {e : TypeId} {A : Option Addr} {L : List Dt} (h : Own w base e 3 A L.length c (dts L)) : Ds w w.heap.size A L := h.rd
end Go.Proofs.Ytailbppddnegoaa
