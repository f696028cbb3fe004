/- Layer 4 (frame): slices.Grow of nil, slices.Concat of three slices of bytes. -/
import Derived.Test.YtjlmbdhjpjbneaaW4
import Derived.Test.YtjlmbdhjpjbneaaV1
namespace Go.Proofs.Ytjlmbdhjpjbneaa
open Go.RowKit
set_option linter.unusedVariables false
set_option maxRecDepth 100000

theorem Own.cut0 {w : World} {base n c : Nat} {e : TypeId} {A : Option Addr} {xs : List Value} (h : Own w base e 1 A n c xs) : Own w base e 1 A 0 c [] := by
  refine ⟨⟨by simp, ?_⟩, Nat.zero_le _, h.2.2⟩
  rcases h.1.2 with ⟨hv, hn⟩ | ⟨g, cap, cur, hv, h1, h2, h3, h4, h5, h6⟩
  · injection hv with hA hn' hc
    subst hA hc
    exact .inl ⟨rfl, rfl⟩
  · injection hv with hA hn' hc
    subst hA hc
    exact .inr ⟨g, c, cur, rfl, h1, h2, Nat.zero_le _, h4, h5, by simp⟩
/-- An empty slice of the call's own. -/
def GrE (w : World) (e : Ending) (w' : World) : Prop := ∃ A c, e = .returned (.slice A 0 c) ∧ Own w' w.heap.size 5 1 A 0 c [] ∧ Below w.heap.size w w'
theorem grow_any (n : Nat) (hn : n ≤ 100000000) (w : World) : Calls Try.prog 119 #[.slice none 0 0, .int .i64 n] w (GrE w) := by
  obtain ⟨i0, hi, hz0, hz1, hz2⟩ := info_parts Try.info_by
  have e1 : IntKind.i64.wrap (n : Int) = (n : Int) := IntWalk.i64_in _ (by omega)
  have hs1 : ∀ w, (sizeOf (Try.prog.elem 62)).run Try.prog w = .ok 1 w := fun w => by kernel_rfl
  by_cases h0 : n = 0
  · subst h0
    go_enter Try.func119, Try.ntmps119
    go_wp2
    go_ret
    exact ⟨none, 0, rfl, Own.nil_, Below.refl _ _⟩
  · have t1 : 0 < n := by omega
    have hto : ∀ w, (Instr.slice 62 (.slice none 0 0) none (some (.int .i64 0)) none).run Try.prog w = .ok (.slice none 0 0) w := fun w => run_to (P := Try.prog) 62 (by kernel_rfl) hs1 none 0 0 0 (by omega) w
    go_enter Try.func119, Try.ntmps119
    go_wp2_with (
      at_builtin
      refine wpList_append_zerosw _ rfl (.tmp 20) (.tmp 21) 62 3 rfl .i64 Try.underlying3 w.heap.size 5 i0 (.int .u8 0) 1 Try.underlying62 hi hz0 hz1 hz2 rfl rfl (by decide) none 0 0 [] rfl Own.nil_ n rfl (by omega) (Nat.le_refl _) ?_
      intro A3 c3 w3 o3 b3
      have hto2 : ∀ w, (Instr.slice 62 (.slice A3 (0 + n) c3) none (some (.int .i64 0)) none).run Try.prog w = .ok (.slice A3 0 c3) w := fun w => run_to (P := Try.prog) 62 (by kernel_rfl) hs1 A3 (0 + n) c3 0 (by omega) w
      simp only [Nat.zero_add] at o3 hto2 ⊢)
    go_ret
    exact ⟨A3, c3, rfl, o3.cut0, b3⟩
end Go.Proofs.Ytjlmbdhjpjbneaa
