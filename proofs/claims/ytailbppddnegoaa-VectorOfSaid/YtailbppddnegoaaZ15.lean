/- Layer 18: Put of a set, by program. -/
import Derived.Test.YtailbppddnegoaaZ14
namespace Go.Proofs.Ytailbppddnegoaa
open Go.RowKit
set_option linter.unusedVariables false
set_option maxRecDepth 100000
attribute [local go_sem ↓] Go.wp_at_zero Go.wp_at_succ

def sP (M B : List Dt) : List UInt8 := nP M ++ nP B
set_option maxHeartbeats 2000000 in
theorem ssput_any (w : World) (base b : Nat) (A : Option Addr) (c : Nat) (l : List UInt8) (p : Option Addr) (M B : List Dt) (h : Wr w base b A c l) (hbase : base ≤ w.heap.size) (hl : l.length ≤ 1000) (hs : SetAt w p M B)
    (keep : ∀ W, Ch (fun k => k = b ∨ bl A = some k) w W → SetAt W p M B) (hm : M.length ≤ 1000) (hn : B.length ≤ 1000) :
    Calls Try.prog 58 #[.pointer p, .pointer (some ⟨b, 0, none⟩)] w (PutE w base b A (l ++ sP M B) (.tuple #[])) := by
  have hvw := hs.sw.vw
  have hsw := hs.sw
  have C0 := Lib.hid (ssbase_any w p M B hs)
  have C1 := Lib.hid (fun (W : World) (Am : Option Addr) (cm : Nat) (h : Wr W base b A c l) (hbase : base ≤ W.heap.size) (hM : MsAt W Am M) (far : ∀ k, bl Am = some k → k ≠ b ∧ bl A ≠ some k) => vcput_any W base b A c l Am cm M h hbase (by omega) hM (fun k hk _ => far k hk) hm (hvw.chk (by omega)))
  have C2 := Lib.hid (fun (W : World) (h : SetAt W p M B) => sssorted_any W p M B h (by omega))
  have hlM := Lib.hid (nP_len M (by omega))
  have hl1 : (l ++ nP M).length ≤ 40000 := by have := hlM.out; rw [List.length_append]; omega
  have CN := Lib.hid (fun (W : World) (A' : Option Addr) (c' : Nat) (h : Wr W base b A' c' (l ++ nP M)) (hbase : base ≤ W.heap.size) => wnum_any W base b A' c' (l ++ nP M) B.length h hbase (by omega) (by omega))
  have CD := Lib.hid (fun (x : Dt) (W : World) (A : Option Addr) (c : Nat) (l : List UInt8) (h : Wr W base b A c l) (hbase : base ≤ W.heap.size) (hl : l.length ≤ 900000) => dput_any x.1.1 x.1.2 x.2 W base b A c l h hbase hl)
  have hvl := Lib.hid (vput_le (x := B.length) (by omega))
  have hsP : l ++ sP M B = ((l ++ nP M) ++ vput B.length) ++ dsP B := by unfold sP; rw [show nP B = vput B.length ++ dsP B from rfl]; simp
  rw [hsP]
  have H0 := Lib.hid (And.intro h hbase)
  have HK := Lib.hid keep
  have HlM := Lib.hid hl1
  generalize (l ++ nP M) = l1 at *
  generalize hlen : B.length = n at *
  have HLn := Lib.hid hlen
  have y1 : IntKind.u64.wrap (n : Int) = (n : Int) := by rw [IntKind.wrap_u64]; omega
  unfold dotV at CD
  clear h hs keep hsP hlen hl1 hvw hsw hbase
  go_enter Try.func58, Try.ntmps58
  go_wp2_with fail
  refine (C0.out).mono ?_; rintro e w1 ⟨Am, cm, rfl, o1, b1⟩
  have hbw := H0.out.1.2.1.lt
  have hAw := fun k (hk : bl A = some k) => (H0.out.1.2.2.block_lt k (by rw [ownBlock_bl]; exact hk)).2
  have H1 := Lib.hid (And.intro (H0.out.1.below b1) (And.intro (MsAt.own o1) (And.intro (Nat.le_trans H0.out.2 b1.size) (And.intro b1 (show ∀ k, bl Am = some k → k ≠ b ∧ bl A ≠ some k from fun k hk => by
    have := o1.bl_lo k hk
    refine ⟨by omega, fun e => ?_⟩
    have := hAw k e
    omega)))))
  clear o1 b1 hAw C0
  go_wp2_with fail
  refine (C1.out _ _ _ H1.out.1 H1.out.2.2.1 H1.out.2.1 H1.out.2.2.2.2).mono ?_; rintro e w2 ⟨A2, c2, rfl, hw2, st2⟩
  have hst2 := WStep.of_below H1.out.2.2.2.1 st2
  have H2 := Lib.hid (And.intro hw2 (And.intro hst2 (And.intro (HK.out _ hst2.1) (Nat.le_trans H1.out.2.2.1 st2.1.size))))
  clear hw2 st2 hst2 H1 C1
  go_wp2_with fail
  refine (C2.out _ H2.out.2.2.1).mono ?_; rintro e w3 ⟨A3, c3, he, o3, b3⟩
  rw [HLn.out] at he
  subst he
  have hbw2 := H2.out.1.2.1.lt
  have hAw2 := fun k (hk : bl A2 = some k) => (H2.out.1.2.2.block_lt k (by rw [ownBlock_bl]; exact hk)).2
  have H3 := Lib.hid (And.intro (H2.out.1.below b3) (And.intro (MsAt.own o3) (And.intro (H2.out.2.1.below b3) (And.intro (Nat.le_trans H2.out.2.2.2 b3.size) (show ∀ k, bl A3 = some k → k ≠ b ∧ bl A2 ≠ some k from fun k hk => by
    have := o3.bl_lo k hk
    refine ⟨by omega, fun e => ?_⟩
    have := hAw2 k e
    omega)))))
  clear o3 b3 H2 C2 hAw2 hbw2
  go_wp2_with fail
  refine (CN.out _ _ _ H3.out.1 H3.out.2.2.2.1).mono ?_; rintro e w4 ⟨A4, c4, rfl, hw4, st4⟩
  have H4 := Lib.hid (And.intro hw4 (And.intro (H3.out.2.1.wst st4 H3.out.2.2.2.2) (And.intro (Nat.le_trans H3.out.2.2.2.1 st4.1.size) (H3.out.2.2.1.trans st4))))
  have hf4 := Lib.hid (show ∀ k, bl A3 = some k → k < w3.heap.size → k ≠ b ∧ bl A4 ≠ some k from fun k hk hlt => ⟨(H3.out.2.2.2.2 k hk).1, fun e => by
    rcases st4.2 k e with h | h
    · exact (H3.out.2.2.2.2 k hk).2 h
    · omega⟩)
  have hm3 := H3.out.2.1
  have hlo := Lib.hid (show ∀ j x, B[j]? = some x → ∀ k, bl A3 = some k → k < w3.heap.size from fun j x hx k hk => by
    obtain ⟨b0, o0, hA, hb0, _⟩ := Ds.at_ (show Ds w3 w3.heap.size A3 B from hm3) hx
    subst hA
    simp [bl] at hk
    omega)
  clear hw4 st4 H3 hm3 CN
  go_wp2_with fail
  go_loopw [20] (fun i wr => ∃ (j : Nat) (A5 : Option Addr) (c5 : Nat), j ≤ n ∧ i = .int .i64 j ∧ Wr wr base b A5 c5 ((l1 ++ vput n) ++ dsP (B.take j)) ∧ WStep w4 wr b A4 A5 ∧ base ≤ wr.heap.size) (fun i _ => n - (intOf i).toNat)
  case atStart => exact ⟨0, A4, c4, by omega, rfl, by have := H4.out.1; simpa [dsP] using this, WStep.refl _ _ _, H4.out.2.2.1⟩
  case round =>
    obtain ⟨j, A5, c5, hj, rfl, hW, hst, hbs⟩ := hrel
    have HI := Lib.hid (And.intro hW (And.intro hst hbs))
    clear hW hst hbs
    by_cases hlt : j < n
    · obtain ⟨x, hx⟩ : ∃ x, B[j]? = some x := ⟨B[j]'(by have := HLn.out; omega), List.getElem?_eq_getElem _⟩
      have hmr : MsAt wr A3 B := H4.out.2.1.wst HI.out.2.1 (fun k hk => hf4.out k hk (hlo.out j x hx k hk))
      obtain ⟨b0, o0, hA, hb0, k0, k1, k2⟩ := Ds.at_ (show Ds wr wr.heap.size A3 B from hmr) hx
      have htk := Lib.hid (dsP_step hx)
      have hln := Lib.hid (show ((l1 ++ vput n) ++ dsP (B.take j)).length ≤ 900000 from by
        have h1 := dsP_len (B.take j)
        have h2 := List.length_take_le j B
        have h3 := hvl.out
        have h4 := HLn.out
        have h5 := HlM.out
        rw [List.length_append, List.length_append]
        omega)
      have CX := Lib.hid (fun W A c h hb hl => CD.out x W A c ((l1 ++ vput n) ++ dsP (B.take j)) h hb hl)
      obtain ⟨⟨d, i⟩, q⟩ := x
      simp only at k0 k1 k2 CX
      clear hx hmr
      have H5 := Lib.hid (And.intro (HI.out.1.below ((Below.refl wr.heap.size wr).alloc (Nat.le_refl _) (.cells #[.int .i64 d, .int .i64 i, .int .i64 q] 27))) (And.intro (HI.out.2.1.below ((Below.refl wr.heap.size wr).alloc (Nat.le_refl _) (.cells #[.int .i64 d, .int .i64 i, .int .i64 q] 27))) (show base ≤ (wr.alloc (.cells #[.int .i64 d, .int .i64 i, .int .i64 q] 27)).heap.size by have := HI.out.2.2; simp; omega)))
      subst hA
      go_wp2_with fail
      generalize (wr.alloc (.cells #[.int .i64 d, .int .i64 i, .int .i64 q] 27)) = W4 at *
      refine (CX.out _ _ _ H5.out.1 H5.out.2.2 hln.out).mono ?_; rintro e w5 ⟨A6, c6, rfl, hw5, st5⟩
      have H6 := Lib.hid (And.intro hw5 (And.intro (H5.out.2.1.trans st5) (Nat.le_trans H5.out.2.2 st5.1.size)))
      clear hw5 st5 H5
      go_wp2
      go_roundw
      case rel => exact ⟨j + 1, A6, c6, by omega, by go_num, by rw [htk.out, ← List.append_assoc]; exact H6.out.1, H6.out.2.1, H6.out.2.2⟩
      case measure => simp [intOf]; omega
    · have hj' : n = j := by omega
      subst hj'
      have HE := Lib.hid (show PutE w base b A ((l1 ++ vput n) ++ dsP B) (.tuple #[]) (.returned (.tuple #[])) wr from by
        have h1 := HI.out.1
        rw [List.take_of_length_le (by have := HLn.out; omega)] at h1
        exact ⟨A5, c5, rfl, h1, H4.out.2.2.2.trans HI.out.2.1⟩)
      go_wp2
      go_end0
      exact HE.out
end Go.Proofs.Ytailbppddnegoaa
