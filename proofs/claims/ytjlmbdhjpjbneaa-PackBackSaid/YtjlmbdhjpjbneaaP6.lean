/- Layer 5 (pack): the law's 'light' and 'put'. -/
import Derived.Test.YtjlmbdhjpjbneaaP5
import Derived.Test.YtjlmbdhjpjbneaaO7
namespace Go.Proofs.Ytjlmbdhjpjbneaa
open Go.RowKit
set_option linter.unusedVariables false
set_option maxRecDepth 100000

/-- What 'light' says. -/
def LightE (w : World) (n : Nat) (f : Nat → Pt) (e : Ending) (w' : World) : Prop :=
  ∃ r : Bool, e = .returned (.bool r) ∧ (r = true → n ≤ 30 ∧ ∀ i, i < n → (f i).S.size ≤ 300 ∧ (f i).fn ≤ 20) ∧ w = w'
theorem light_any (w : World) (B : Nat) (A : Option Addr) (n c : Nat) (f : Nat → Pt) (h : PartsAt w B A n f) (hnc : n ≤ c) (hcm : c ≤ maxLen) (hok : ∀ i, i < n → (f i).S.size ≤ maxLen ∧ (f i).fn ≤ maxLen) :
    Calls Try.prog 39 #[.slice A n c] w (LightE w n f) := by
  have hm9 : maxLen = 9223372036854775807 := rfl
  by_cases hn : 30 < n
  · go_enter Try.func39, Try.ntmps39
    go_wp2
    go_ret
    exact ⟨false, rfl, by simp, rfl⟩
  · go_enter Try.func39, Try.ntmps39
    go_wp2
    go_loop [3] (fun i => ∃ j : Nat, j ≤ n ∧ i = .int .i64 j ∧ ∀ k, k < j → (f k).S.size ≤ 300 ∧ (f k).fn ≤ 20) (fun i => n - (intOf i).toNat)
    case atStart => exact ⟨0, by omega, rfl, fun k hk => absurd hk (by omega)⟩
    case round =>
      obtain ⟨j, hj, rfl, hk⟩ := hrel
      by_cases hlt : j < n
      · obtain ⟨b, o, rfl, _, hcell⟩ := h (by omega)
        obtain ⟨c0, c1, c2, c3, c4⟩ := hcell j hlt
        obtain ⟨ok1, ok2⟩ := hok j hlt
        by_cases h1 : 300 < (f j).S.size
        · go_wp2
          go_ret
          exact ⟨false, rfl, by simp, rfl⟩
        · by_cases h2 : 20 < (f j).fn
          · go_wp2
            go_ret
            exact ⟨false, rfl, by simp, rfl⟩
          · go_wp2
            go_round
            case rel => exact ⟨j + 1, by omega, by go_num, fun k hk' => by
              by_cases hkj : k < j
              · exact hk k hkj
              · obtain rfl : k = j := by omega
                exact ⟨by omega, by omega⟩⟩
            case measure => simp [intOf]; omega
      · go_wp2
        go_ret
        exact ⟨true, rfl, fun _ => ⟨by omega, fun i hi => hk i (by omega)⟩, rfl⟩
/-- int64(n). -/
def iN (N : Nat) : Int := IntKind.i64.wrap (N : Int)
/-- A part, packed. -/
def ptP (p : Pt) : List UInt8 :=
  if p.k = 1 then vput p.N else if p.k = 2 then vput (foldI (iN p.N)).toNat else if p.k = 3 then vput p.S.size ++ sb p.S else if p.k = 4 then [flB p.fl] else []
theorem wend0 {w W1 w' : World} {base b : Nat} {A A' : Option Addr} {c' : Nat} {l : List UInt8} (hb : Below w.heap.size w W1) (hw : Wr w' base b A' c' l) (st : WStep W1 w' b A A') : WEnd0 w base b A l (.returned (.tuple #[])) w' :=
  ⟨A', c', rfl, hw, WStep.of_below hb st⟩
theorem iN_b (N : Nat) : -9223372036854775808 ≤ iN N ∧ iN N ≤ 9223372036854775807 := by
  unfold iN
  rw [IntKind.wrap_i64]
  omega
set_option maxHeartbeats 1000000 in
theorem put_part (p : Pt) (w : World) (base b : Nat) (A : Option Addr) (c : Nat) (l : List UInt8) (h : Wr w base b A c l) (hbase : base ≤ w.heap.size) (hl : l.length ≤ 900000) (hok : ptOk w w.heap.size p) (hS : p.S.size ≤ 300) (hF : p.fn ≤ 20) :
    Calls Try.prog 42 #[.pointer (some ⟨b, 0, none⟩), ptV p] w (WEnd0 w base b A (l ++ ptP p)) := by
  obtain ⟨k, N, S, FA, fn, fc, fl, most⟩ := p
  obtain ⟨_, hN, _, hr, _, _, _⟩ := hok
  simp only at hS hF hN hr
  have hB0 := (Below.refl w.heap.size w).alloc (Nat.le_refl _) (.cells #[.int .i64 k, .int .u64 (N : Int), .string S, .slice FA fn fc, .int .i64 most] 70)
  have hsz : w.heap.size ≤ (w.alloc (.cells #[.int .i64 k, .int .u64 (N : Int), .string S, .slice FA fn fc, .int .i64 most] 70)).heap.size := by simp
  have hW1 := h.below hB0
  have hr1 := hr.below hB0
  have HB := Lib.hid hB0
  have hi := iN_b N
  have hE : ∀ (L : List UInt8) (w' : World), WEnd (w.alloc (.cells #[.int .i64 k, .int .u64 (N : Int), .string S, .slice FA fn fc, .int .i64 most] 70)) base b A L (.returned (.pointer (some ⟨b, 0, none⟩))) w' → WEnd0 w base b A L (.returned (.tuple #[])) w' := fun L w' ⟨A', c', _, h1, h2⟩ => wend0 HB.out h1 h2
  have HE := Lib.hid hE
  have C1 := Lib.hid (wnum_any _ base b A c l N hW1 (by omega) (by omega) hN)
  have C2 := Lib.hid (wint_any _ base b A c l (iN N) hW1 (by omega) (by omega) hi.1 hi.2)
  have C3 := Lib.hid (wtext_any _ base b A c l S hW1 (by omega) (by omega) (by omega))
  have C4 := Lib.hid (wflags_any _ base b A c l FA fn fc w.heap.size fl hW1 (by omega) (by omega) hr1 (by omega))
  have h0 := Lib.hid (show WEnd0 w base b A l (.returned (.tuple #[])) _ from ⟨A, c, rfl, hW1, WStep.below (WStep.refl _ _ _) hB0⟩)
  unfold ptP ptV
  simp only
  clear h hr hB0 hW1 hr1 hE hi hbase hl
  unfold iN at C2 ⊢
  generalize hX : IntKind.i64.wrap (N : Int) = X at *
  by_cases e1 : k = 1
  · subst e1
    rw [if_pos rfl]
    go_enter Try.func42, Try.ntmps42
    go_wp2_with fail
    refine (C1.out).mono ?_; rintro e w1 h1
    obtain ⟨A1, c1, rfl, h1⟩ := h1
    go_wp2
    first | go_end0 | refine bodyPost_ret (results_none rfl _ _ _) rfl ?_
    exact HE.out _ _ ⟨A1, c1, rfl, h1⟩
  · have t1 : (k == 1) = false := by simp [e1]
    rw [if_neg e1]
    by_cases e2 : k = 2
    · subst e2
      rw [if_pos rfl]
      go_enter Try.func42, Try.ntmps42
      go_wp2_with fail
      refine (C2.out).mono ?_; rintro e w1 h1
      obtain ⟨A1, c1, rfl, h1⟩ := h1
      go_wp2
      first | go_end0 | refine bodyPost_ret (results_none rfl _ _ _) rfl ?_
      exact HE.out _ _ ⟨A1, c1, rfl, h1⟩
    · have t2 : (k == 2) = false := by simp [e2]
      rw [if_neg e2]
      by_cases e3 : k = 3
      · subst e3
        rw [if_pos rfl]
        go_enter Try.func42, Try.ntmps42
        go_wp2_with fail
        refine (C3.out).mono ?_; rintro e w1 h1
        obtain ⟨A1, c1, rfl, h1⟩ := h1
        go_wp2
        first | go_end0 | refine bodyPost_ret (results_none rfl _ _ _) rfl ?_
        exact HE.out _ _ ⟨A1, c1, rfl, h1⟩
      · have t3 : (k == 3) = false := by simp [e3]
        rw [if_neg e3]
        by_cases e4 : k = 4
        · subst e4
          rw [if_pos rfl]
          go_enter Try.func42, Try.ntmps42
          go_wp2_with fail
          refine (C4.out).mono ?_; rintro e w1 h1
          obtain ⟨A1, c1, rfl, h1⟩ := h1
          go_wp2
          first | go_end0 | refine bodyPost_ret (results_none rfl _ _ _) rfl ?_
          exact HE.out _ _ ⟨A1, c1, rfl, h1⟩
        · have t4 : (k == 4) = false := by simp [e4]
          rw [if_neg e4, List.append_nil]
          go_enter Try.func42, Try.ntmps42
          go_wp2
          first | go_end0 | refine bodyPost_ret (results_none rfl _ _ _) rfl ?_
          exact h0.out
end Go.Proofs.Ytjlmbdhjpjbneaa
