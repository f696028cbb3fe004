/- Layers 17, 18: Put of marks and of a set, by program. -/
import Derived.Test.YtailbppddnegoaaZB
import Derived.Test.YtailbppddnegoaaD10
import Derived.Test.YtailbppddnegoaaYE
namespace Go.Proofs.Ytailbppddnegoaa
open Go.RowKit
set_option linter.unusedVariables false
set_option maxRecDepth 100000
attribute [local go_sem ↓] Go.wp_at_zero Go.wp_at_succ

def dP (x : Dt) : List UInt8 := dotP x.1.1 x.1.2 x.2
def dsP (L : List Dt) : List UInt8 := L.flatMap dP
/-- A number of dots and the dots, packed. -/
def nP (L : List Dt) : List UInt8 := vput L.length ++ dsP L
theorem dP_len (x : Dt) : (dP x).length ≤ 30 := by
  unfold dP dotP
  split
  · rename_i h
    simp [dotB, actB] at h
    have h1 := vput_le (x := x.1.1.toNat) (by omega)
    have h2 := vput_le (x := x.1.2.toNat) (by omega)
    have h3 := vput_le (x := x.2.toNat) (by omega)
    simp; omega
  · simp
theorem dsP_len (L : List Dt) : (dsP L).length ≤ 30 * L.length := by
  induction L with
  | nil => simp [dsP]
  | cons x r ih =>
    have h := dP_len x
    have e : dsP (x :: r) = dP x ++ dsP r := by simp [dsP]
    rw [e, List.length_append, List.length_cons]
    omega
theorem dsP_step {L : List Dt} {j : Nat} {x : Dt} (hx : L[j]? = some x) : dsP (L.take (j + 1)) = dsP (L.take j) ++ dP x := by
  rw [List.take_add_one, hx]; simp [dsP]
theorem nP_len (L : List Dt) (h : L.length ≤ 1000000) : (nP L).length ≤ 10 + 30 * L.length := by
  have h1 := vput_le (x := L.length) (by omega)
  have h2 := dsP_len L
  unfold nP
  rw [List.length_append]
  omega
theorem MsAt.wst {w w' : World} {b : Nat} {A A1 Am : Option Addr} {L : List Dt} (h : MsAt w Am L) (st : WStep w w' b A A1) (far : ∀ k, bl Am = some k → k ≠ b ∧ bl A ≠ some k) : MsAt w' Am L :=
  h.ch st.1 (fun k hk e => by have := far k hk; rcases e with e | e; exact this.1 e; exact this.2 e)
theorem MsAt.wst' {w w' : World} {b : Nat} {A A1 Am : Option Addr} {L : List Dt} (h : MsAt w Am L) (st : WStep w w' b A A1) (far : ∀ k, bl Am = some k → L ≠ [] → k ≠ b ∧ bl A ≠ some k) : MsAt w' Am L := by
  cases L with
  | nil => exact ⟨rfl, fun hn => absurd hn (by simp)⟩
  | cons x r => exact h.wst st (fun k hk => far k hk (by simp))
/-- What a Put of marks leaves. -/
def PutE (w : World) (base b : Nat) (A : Option Addr) (l : List UInt8) (r : Value) (e : Ending) (w' : World) : Prop :=
  ∃ A' c', e = .returned r ∧ Wr w' base b A' c' l ∧ WStep w w' b A A'
set_option maxHeartbeats 2000000 in
theorem vcput_any (w : World) (base b : Nat) (A : Option Addr) (c : Nat) (l : List UInt8) (Am : Option Addr) (cm : Nat) (L : List Dt) (h : Wr w base b A c l) (hbase : base ≤ w.heap.size) (hl : l.length ≤ 100000) (hm : MsAt w Am L)
    (far : ∀ k, bl Am = some k → L ≠ [] → k ≠ b ∧ bl A ≠ some k) (hn : L.length ≤ 1000) (hc : chkE L = 0) :
    Calls Try.prog 75 #[.pointer (some ⟨b, 0, none⟩), .slice Am L.length cm] w (PutE w base b A (l ++ nP L) (.int .i64 0)) := by
  have C0 := Lib.hid (vccheck_any w Am cm L hm (by omega))
  rw [hc] at C0
  have CN := Lib.hid (fun (W : World) (h : Wr W base b A c l) (hbase : base ≤ W.heap.size) => wnum_any W base b A c l L.length h hbase (by omega) (by omega))
  have CD := Lib.hid (fun (x : Dt) (W : World) (A : Option Addr) (c : Nat) (l : List UInt8) (h : Wr W base b A c l) (hbase : base ≤ W.heap.size) (hl : l.length ≤ 900000) => dput_any x.1.1 x.1.2 x.2 W base b A c l h hbase hl)
  have hvl := Lib.hid (vput_le (x := L.length) (by omega))
  have hnP : nP L = vput L.length ++ dsP L := rfl
  rw [hnP]
  have H0 := Lib.hid (And.intro h (And.intro hm hbase))
  have HF := Lib.hid far
  generalize hlen : L.length = n at *
  have HLn := Lib.hid hlen
  have y1 : IntKind.u64.wrap (n : Int) = (n : Int) := by rw [IntKind.wrap_u64]; omega
  unfold dotV at CD
  clear h hm far hc hnP hlen
  go_enter Try.func75, Try.ntmps75
  go_wp2_with fail
  refine (C0.out).mono ?_; rintro e w1 ⟨rfl, b1⟩
  have H1 := Lib.hid (And.intro (H0.out.1.below b1) (And.intro (H0.out.2.1.up b1) (And.intro (Nat.le_trans H0.out.2.2 b1.size) (WStep.of_below b1 (WStep.refl w1 b A)))))
  clear b1 H0
  go_wp2_with fail
  refine (CN.out _ H1.out.1 H1.out.2.2.1).mono ?_; rintro e w2 ⟨A2, c2, rfl, hw2, st2⟩
  have H2 := Lib.hid (And.intro hw2 (And.intro (H1.out.2.1.wst' st2 HF.out) (And.intro (Nat.le_trans H1.out.2.2.1 st2.1.size) (H1.out.2.2.2.trans st2))))
  have hf2 := Lib.hid (show ∀ k, bl Am = some k → L ≠ [] → k < w1.heap.size → k ≠ b ∧ bl A2 ≠ some k from fun k hk hne hlt => ⟨(HF.out k hk hne).1, fun e => by
    rcases st2.2 k e with h | h
    · exact (HF.out k hk hne).2 h
    · omega⟩)
  have hm1 := H1.out.2.1
  have hlo := Lib.hid (show ∀ j x, L[j]? = some x → ∀ k, bl Am = some k → k < w1.heap.size from fun j x hx k hk => by
    obtain ⟨b0, o0, hA, hb0, _⟩ := Ds.at_ (show Ds w1 w1.heap.size Am L from hm1) hx
    subst hA
    simp [bl] at hk
    omega)
  clear hw2 st2 H1 hm1
  go_wp2_with fail
  go_loopw [20] (fun i wr => ∃ (j : Nat) (A3 : Option Addr) (c3 : Nat), j ≤ n ∧ i = .int .i64 j ∧ Wr wr base b A3 c3 ((l ++ vput n) ++ dsP (L.take j)) ∧ WStep w2 wr b A2 A3 ∧ base ≤ wr.heap.size) (fun i _ => n - (intOf i).toNat)
  case atStart => exact ⟨0, A2, c2, by omega, rfl, by have := H2.out.1; simpa [dsP] using this, WStep.refl _ _ _, H2.out.2.2.1⟩
  case round =>
    obtain ⟨j, A3, c3, hj, rfl, hW, hst, hbs⟩ := hrel
    have HI := Lib.hid (And.intro hW (And.intro hst hbs))
    clear hW hst hbs
    by_cases hlt : j < n
    · obtain ⟨x, hx⟩ : ∃ x, L[j]? = some x := ⟨L[j]'(by have := HLn.out; omega), List.getElem?_eq_getElem _⟩
      have hmr : MsAt wr Am L := H2.out.2.1.wst HI.out.2.1 (fun k hk => hf2.out k hk (by rintro rfl; cases hx) (hlo.out j x hx k hk))
      obtain ⟨b0, o0, hA, hb0, k0, k1, k2⟩ := Ds.at_ (show Ds wr wr.heap.size Am L from hmr) hx
      have htk := Lib.hid (dsP_step hx)
      have hln := Lib.hid (show ((l ++ vput n) ++ dsP (L.take j)).length ≤ 900000 from by
        have h1 := dsP_len (L.take j)
        have h2 := List.length_take_le j L
        have h3 := hvl.out
        have h4 := HLn.out
        rw [List.length_append, List.length_append]
        omega)
      have CX := Lib.hid (fun W A c h hb hl => CD.out x W A c ((l ++ vput n) ++ dsP (L.take j)) h hb hl)
      obtain ⟨⟨d, i⟩, q⟩ := x
      simp only at k0 k1 k2 CX
      clear hx hmr
      have H4 := Lib.hid (And.intro (HI.out.1.below ((Below.refl wr.heap.size wr).alloc (Nat.le_refl _) (.cells #[.int .i64 d, .int .i64 i, .int .i64 q] 33))) (And.intro (HI.out.2.1.below ((Below.refl wr.heap.size wr).alloc (Nat.le_refl _) (.cells #[.int .i64 d, .int .i64 i, .int .i64 q] 33))) (show base ≤ (wr.alloc (.cells #[.int .i64 d, .int .i64 i, .int .i64 q] 33)).heap.size by have := HI.out.2.2; simp; omega)))
      subst hA
      go_wp2_with fail
      generalize (wr.alloc (.cells #[.int .i64 d, .int .i64 i, .int .i64 q] 33)) = W4 at *
      refine (CX.out _ _ _ H4.out.1 H4.out.2.2 hln.out).mono ?_; rintro e w5 ⟨A5, c5, rfl, hw5, st5⟩
      have H5 := Lib.hid (And.intro hw5 (And.intro (H4.out.2.1.trans st5) (Nat.le_trans H4.out.2.2 st5.1.size)))
      clear hw5 st5 H4
      go_wp2
      go_roundw
      case rel => exact ⟨j + 1, A5, c5, by omega, by go_num, by rw [htk.out, ← List.append_assoc]; exact H5.out.1, H5.out.2.1, H5.out.2.2⟩
      case measure => simp [intOf]; omega
    · have hj' : n = j := by omega
      subst hj'
      have HE := Lib.hid (show PutE w base b A (l ++ (vput n ++ dsP L)) (.int .i64 0) (.returned (.int .i64 0)) wr from by
        have h1 := HI.out.1
        rw [List.take_of_length_le (by have := HLn.out; omega), List.append_assoc] at h1
        exact ⟨A3, c3, rfl, h1, H2.out.2.2.2.trans HI.out.2.1⟩)
      go_wp2
      go_ret
      exact HE.out
end Go.Proofs.Ytailbppddnegoaa
