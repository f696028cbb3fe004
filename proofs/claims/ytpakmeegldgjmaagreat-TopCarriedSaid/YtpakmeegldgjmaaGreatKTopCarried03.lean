/- TopCarried: part 3 of what the proof rests on: contracts of functions, and plain laws. -/
import Derived.WalkKit
import Derived.ProofKit
import Derived.OpenShut
import Derived.Handy
import Derived.Outline
import Derived.Lib.Hide
import Derived.Deep.Draws
import Derived.Laws.OwnMore
import Derived.Laws.AppendOwn
import Derived.Laws.AppendOwnNone
import Derived.Laws.BitsAllLaws
import Derived.Laws.Bits64b
import Derived.Lib.AppendZeros
import Derived.Lib.AppendZerosOnto
import Derived.Laws.CopyRow
import Derived.Lib.AppendStr
import Derived.Test.YtpakmeegldgjmaaGreatRows
import Derived.Lib.Zigzag
import Derived.Deep.QuietTactic
import Derived.BigQuiet
import Derived.Deep.LoopGhost
import Derived.BigRegion
import Derived.RegionTactic
import Derived.Deep.WholeRow
import Derived.Deep.Slices
import Derived.Lib.Varint
import Derived.WalkSpells
import Derived.Laws.BytesString
import Derived.Laws.Concat
import Derived.IntWalk
import Derived.Test.YtpakmeegldgjmaaGreatProg
import Derived.Deep.RegionHeld3
import Derived.StillTailTactics
import Derived.Laws.StructEq
import Derived.Lib.SmallJoins
import Derived.Deep.Strs
import Derived.Laws.IdiomStrings
import Derived.Lib.SlBytesConst
import Derived.Deep.RegionWith
import Derived.Maps.Own
import Derived.Maps.OwnSet
import Derived.Maps.Range
import Derived.DeepKeys4
import Derived.ChangeKeysEq
import Derived.DeepKeys2
import Derived.RangeFuncNested
import Derived.RangeFuncBound
import Derived.RangeFuncCalls
import Derived.RangeFuncLeaves
import Derived.Sort.MapsRangeIn
import Derived.OwnWalkIn
import Derived.TacticsInMore
import Derived.RegionIn
import Derived.LoopNIn
import Derived.LoopIn
import Derived.Maps.AppendAt
import Derived.Sort.Grow
import Derived.Shelf.GgSortFunc.InsertionK
import Derived.Shelf.SlSortCmp.NoneTotal
import Derived.WideKeyEntry
import Derived.Deep.CutBlock
import Derived.Deep.CutRange
import Derived.Deep.RegionLaw
import Derived.Deep.DeepCutAuto
import Derived.Deep.DrawnRows
import Derived.WalkLawsBesides
import Derived.Deep.MidRow
import Derived.Laws.Strings2
import Derived.Test.YtpakmeegldgjmaaGreatKTopCarried02
/- Layers 17, 18: Put of marks and of a set, by program. -/
namespace Go.Proofs.YtpakmeegldgjmaaGreat
open Go.RowKit
set_option linter.unusedVariables false
set_option maxRecDepth 100000
attribute [local go_sem ↓] Go.wp_at_zero Go.wp_at_succ

def dP (x : Dt) : List UInt8 := dotP x.1.1 x.1.2 x.2
def dsP (L : List Dt) : List UInt8 := L.flatMap dP
/-- A number of dots and the dots, packed. -/
def nP (L : List Dt) : List UInt8 := vput L.length ++ dsP L
theorem dP_len (x : Dt) : (dP x).length ≤ 30 := by
  unfold dP dotP
  split
  · rename_i h
    simp [dotB, actB] at h
    have h1 := vput_le (x := x.1.1.toNat) (by omega)
    have h2 := vput_le (x := x.1.2.toNat) (by omega)
    have h3 := vput_le (x := x.2.toNat) (by omega)
    simp; omega
  · simp
theorem dsP_len (L : List Dt) : (dsP L).length ≤ 30 * L.length := by
  induction L with
  | nil => simp [dsP]
  | cons x r ih =>
    have h := dP_len x
    have e : dsP (x :: r) = dP x ++ dsP r := by simp [dsP]
    rw [e, List.length_append, List.length_cons]
    omega
theorem dsP_step {L : List Dt} {j : Nat} {x : Dt} (hx : L[j]? = some x) : dsP (L.take (j + 1)) = dsP (L.take j) ++ dP x := by
  rw [List.take_add_one, hx]; simp [dsP]
theorem nP_len (L : List Dt) (h : L.length ≤ 1000000) : (nP L).length ≤ 10 + 30 * L.length := by
  have h1 := vput_le (x := L.length) (by omega)
  have h2 := dsP_len L
  unfold nP
  rw [List.length_append]
  omega
theorem MsAt.wst {w w' : World} {b : Nat} {A A1 Am : Option Addr} {L : List Dt} (h : MsAt w Am L) (st : WStep w w' b A A1) (far : ∀ k, bl Am = some k → k ≠ b ∧ bl A ≠ some k) : MsAt w' Am L :=
  h.ch st.1 (fun k hk e => by have := far k hk; rcases e with e | e; exact this.1 e; exact this.2 e)
theorem MsAt.wst' {w w' : World} {b : Nat} {A A1 Am : Option Addr} {L : List Dt} (h : MsAt w Am L) (st : WStep w w' b A A1) (far : ∀ k, bl Am = some k → L ≠ [] → k ≠ b ∧ bl A ≠ some k) : MsAt w' Am L := by
  cases L with
  | nil => exact ⟨rfl, fun hn => absurd hn (by simp)⟩
  | cons x r => exact h.wst st (fun k hk => far k hk (by simp))
/-- What a Put of marks leaves. -/
def PutE (w : World) (base b : Nat) (A : Option Addr) (l : List UInt8) (r : Value) (e : Ending) (w' : World) : Prop :=
  ∃ A' c', e = .returned r ∧ Wr w' base b A' c' l ∧ WStep w w' b A A'
set_option maxHeartbeats 2000000 in
theorem vcput_any (w : World) (base b : Nat) (A : Option Addr) (c : Nat) (l : List UInt8) (Am : Option Addr) (cm : Nat) (L : List Dt) (h : Wr w base b A c l) (hbase : base ≤ w.heap.size) (hl : l.length ≤ 100000) (hm : MsAt w Am L)
    (far : ∀ k, bl Am = some k → L ≠ [] → k ≠ b ∧ bl A ≠ some k) (hn : L.length ≤ 1000) (hc : chkE L = 0) :
    Calls Tryz.prog 22 #[.pointer (some ⟨b, 0, none⟩), .slice Am L.length cm] w (PutE w base b A (l ++ nP L) (.int .i64 0)) := by
  have C0 := Lib.hid (vccheck_any w Am cm L hm (by omega))
  rw [hc] at C0
  have CN := Lib.hid (fun (W : World) (h : Wr W base b A c l) (hbase : base ≤ W.heap.size) => wnum_any W base b A c l L.length h hbase (by omega) (by omega))
  have CD := Lib.hid (fun (x : Dt) (W : World) (A : Option Addr) (c : Nat) (l : List UInt8) (h : Wr W base b A c l) (hbase : base ≤ W.heap.size) (hl : l.length ≤ 900000) => dput_any x.1.1 x.1.2 x.2 W base b A c l h hbase hl)
  have hvl := Lib.hid (vput_le (x := L.length) (by omega))
  have hnP : nP L = vput L.length ++ dsP L := rfl
  rw [hnP]
  have H0 := Lib.hid (And.intro h (And.intro hm hbase))
  have HF := Lib.hid far
  generalize hlen : L.length = n at *
  have HLn := Lib.hid hlen
  have y1 : IntKind.u64.wrap (n : Int) = (n : Int) := by rw [IntKind.wrap_u64]; omega
  unfold dotV at CD
  clear h hm far hc hnP hlen
  go_enter Tryz.func22, Tryz.ntmps22
  go_wp2_with fail
  refine (C0.out).mono ?_; rintro e w1 ⟨rfl, b1⟩
  have H1 := Lib.hid (And.intro (H0.out.1.below b1) (And.intro (H0.out.2.1.up b1) (And.intro (Nat.le_trans H0.out.2.2 b1.size) (WStep.of_below b1 (WStep.refl w1 b A)))))
  clear b1 H0
  go_wp2_with fail
  refine (CN.out _ H1.out.1 H1.out.2.2.1).mono ?_; rintro e w2 ⟨A2, c2, rfl, hw2, st2⟩
  have H2 := Lib.hid (And.intro hw2 (And.intro (H1.out.2.1.wst' st2 HF.out) (And.intro (Nat.le_trans H1.out.2.2.1 st2.1.size) (H1.out.2.2.2.trans st2))))
  have hf2 := Lib.hid (show ∀ k, bl Am = some k → L ≠ [] → k < w1.heap.size → k ≠ b ∧ bl A2 ≠ some k from fun k hk hne hlt => ⟨(HF.out k hk hne).1, fun e => by
    rcases st2.2 k e with h | h
    · exact (HF.out k hk hne).2 h
    · omega⟩)
  have hm1 := H1.out.2.1
  have hlo := Lib.hid (show ∀ j x, L[j]? = some x → ∀ k, bl Am = some k → k < w1.heap.size from fun j x hx k hk => by
    obtain ⟨b0, o0, hA, hb0, _⟩ := Ds.at_ (show Ds w1 w1.heap.size Am L from hm1) hx
    subst hA
    simp [bl] at hk
    omega)
  clear hw2 st2 H1 hm1
  go_wp2_with fail
  go_loopw [20] (fun i wr => ∃ (j : Nat) (A3 : Option Addr) (c3 : Nat), j ≤ n ∧ i = .int .i64 j ∧ Wr wr base b A3 c3 ((l ++ vput n) ++ dsP (L.take j)) ∧ WStep w2 wr b A2 A3 ∧ base ≤ wr.heap.size) (fun i _ => n - (intOf i).toNat)
  case atStart => exact ⟨0, A2, c2, by omega, rfl, by have := H2.out.1; simpa [dsP] using this, WStep.refl _ _ _, H2.out.2.2.1⟩
  case round =>
    obtain ⟨j, A3, c3, hj, rfl, hW, hst, hbs⟩ := hrel
    have HI := Lib.hid (And.intro hW (And.intro hst hbs))
    clear hW hst hbs
    by_cases hlt : j < n
    · obtain ⟨x, hx⟩ : ∃ x, L[j]? = some x := ⟨L[j]'(by have := HLn.out; omega), List.getElem?_eq_getElem _⟩
      have hmr : MsAt wr Am L := H2.out.2.1.wst HI.out.2.1 (fun k hk => hf2.out k hk (by rintro rfl; cases hx) (hlo.out j x hx k hk))
      obtain ⟨b0, o0, hA, hb0, k0, k1, k2⟩ := Ds.at_ (show Ds wr wr.heap.size Am L from hmr) hx
      have htk := Lib.hid (dsP_step hx)
      have hln := Lib.hid (show ((l ++ vput n) ++ dsP (L.take j)).length ≤ 900000 from by
        have h1 := dsP_len (L.take j)
        have h2 := List.length_take_le j L
        have h3 := hvl.out
        have h4 := HLn.out
        rw [List.length_append, List.length_append]
        omega)
      have CX := Lib.hid (fun W A c h hb hl => CD.out x W A c ((l ++ vput n) ++ dsP (L.take j)) h hb hl)
      obtain ⟨⟨d, i⟩, q⟩ := x
      simp only at k0 k1 k2 CX
      clear hx hmr
      have H4 := Lib.hid (And.intro (HI.out.1.below ((Below.refl wr.heap.size wr).alloc (Nat.le_refl _) (.cells #[.int .i64 d, .int .i64 i, .int .i64 q] 111))) (And.intro (HI.out.2.1.below ((Below.refl wr.heap.size wr).alloc (Nat.le_refl _) (.cells #[.int .i64 d, .int .i64 i, .int .i64 q] 111))) (show base ≤ (wr.alloc (.cells #[.int .i64 d, .int .i64 i, .int .i64 q] 111)).heap.size by have := HI.out.2.2; simp; omega)))
      subst hA
      go_wp2_with fail
      generalize (wr.alloc (.cells #[.int .i64 d, .int .i64 i, .int .i64 q] 111)) = W4 at *
      refine (CX.out _ _ _ H4.out.1 H4.out.2.2 hln.out).mono ?_; rintro e w5 ⟨A5, c5, rfl, hw5, st5⟩
      have H5 := Lib.hid (And.intro hw5 (And.intro (H4.out.2.1.trans st5) (Nat.le_trans H4.out.2.2 st5.1.size)))
      clear hw5 st5 H4
      go_wp2
      go_roundw
      case rel => exact ⟨j + 1, A5, c5, by omega, by go_num, by rw [htk.out, ← List.append_assoc]; exact H5.out.1, H5.out.2.1, H5.out.2.2⟩
      case measure => simp [intOf]; omega
    · have hj' : n = j := by omega
      subst hj'
      have HE := Lib.hid (show PutE w base b A (l ++ (vput n ++ dsP L)) (.int .i64 0) (.returned (.int .i64 0)) wr from by
        have h1 := HI.out.1
        rw [List.take_of_length_le (by have := HLn.out; omega), List.append_assoc] at h1
        exact ⟨A3, c3, rfl, h1, H2.out.2.2.2.trans HI.out.2.1⟩)
      go_wp2
      go_ret
      exact HE.out
end Go.Proofs.YtpakmeegldgjmaaGreat
/- Layer 17 (vector): Get of marks that were packed; Put of marks that may not be. -/
namespace Go.Proofs.YtpakmeegldgjmaaGreat
open Go.RowKit
set_option linter.unusedVariables false
set_option maxRecDepth 100000
attribute [local go_sem ↓] Go.wp_at_zero Go.wp_at_succ

theorem Re.far {w w' : World} {b n c N : Nat} {A : Option Addr} {l : List UInt8} {er : Int} (h : Re w b A n c l er) (hb : Below N w w') (hN : b < N) : Re w' b A n c l er :=
  ⟨h.1.below hb hN, h.2.1.below (hb.mono (by omega)), h.2.2⟩
theorem Ch.belowN {S : Nat → Prop} {w w1 w2 : World} {N : Nat} (h : Ch S w w1) (b : Below N w1 w2) (hN : w.heap.size ≤ N) : Ch S w w2 :=
  h.trans (show Ch (fun k => N ≤ k) w1 w2 from ⟨b.os, b.tape, b.output, b.size, fun k _ hk => b.block k (by omega)⟩) (fun k hk hs => by omega)
theorem dsP_drop {L : List Dt} {j : Nat} {x : Dt} (hx : L[j]? = some x) : dsP (L.drop j) = dP x ++ dsP (L.drop (j + 1)) := by
  have : L.drop j = x :: L.drop (j + 1) := by
    have hlt : j < L.length := (List.getElem?_eq_some_iff.1 hx).1
    rw [List.drop_eq_getElem_cons hlt]
    rw [(List.getElem?_eq_some_iff.1 hx).2]
  rw [this]
  simp [dsP]
/-- What vector.Get leaves. -/
def GetE (w : World) (b : Nat) (L : List Dt) (R : List UInt8) (e : Ending) (w' : World) : Prop :=
  ∃ A' c' A n c, e = .returned (.slice A' L.length c') ∧ MsAt w' A' L ∧ (∀ k, bl A' = some k → w.heap.size ≤ k) ∧ Re w' b A n c R 0 ∧ Ch (fun k => k = b) w w'
set_option maxHeartbeats 4000000 in
theorem vcget_put (w : World) (b : Nat) (A : Option Addr) (n0 c : Nat) (L : List Dt) (R : List UInt8) (h : Re w b A n0 c (nP L ++ R) 0) (hv : Vw L) (hl : L.length ≤ 1000) :
    Calls Tryz.prog 36 #[.pointer (some ⟨b, 0, none⟩)] w (GetE w b L R) := by
  have hnP : nP L ++ R = vput L.length ++ (dsP L ++ R) := by unfold nP; rw [List.append_assoc]
  rw [hnP] at h
  have CN := Lib.hid (rnum_any w b A n0 c (vput L.length ++ (dsP L ++ R)) 0 4096 h)
  rw [rnumR_putx _ (by omega) (by omega)] at CN
  have CE := Lib.hid (fun (W : World) (A : Option Addr) (n c : Nat) (l : List UInt8) (h : Re W b A n c l 0) => rerr_any W b A n c l 0 h)
  have CD := Lib.hid (fun (x : Dt) (hq : dotB x.1.1 x.1.2 x.2 = true) (R : List UInt8) (W : World) (A : Option Addr) (n c : Nat) (h : Re W b A n c (dP x ++ R) 0) => dget_put x.1.1 x.1.2 x.2 hq R W b A n c h)
  have CC := Lib.hid (fun (W : World) (A : Option Addr) (c : Nat) (h : MsAt W A L) => vccheck_any W A c L h (by omega))
  rw [hv.chk (by omega)] at CC
  have hbN := h.1.lt
  have HV := Lib.hid hv
  generalize hlen : L.length = n at *
  have HLn := Lib.hid hlen
  generalize hN : w.heap.size = N at *
  unfold dotV at CD
  clear h hnP hlen hv
  go_enter Tryz.func36, Tryz.ntmps36
  go_wp2_with fail
  refine (CN.out).mono ?_; rintro e w1 ⟨A1, n1, c1, rfl, hR1, ch1⟩
  have hz1 : N ≤ w1.heap.size := by have := ch1.size; omega
  have H1 := Lib.hid (And.intro hR1 ch1)
  clear hR1 ch1 CN
  go_wp2_with fail
  go_loopw [3, 4] (fun y i wr => ∃ (j : Nat) (A3 : Option Addr) (c3 : Nat) (A2 : Option Addr) (n2 c2 : Nat), j ≤ n ∧ i = .int .u64 ((n - j : Nat) : Int) ∧ y = .slice A3 j c3 ∧ Own wr N 111 3 A3 j c3 (dts (L.take j)) ∧ Re wr b A2 n2 c2 (dsP (L.drop j) ++ R) 0 ∧ Ch (fun k => k = b) w wr ∧ N ≤ wr.heap.size) (fun _ i _ => (intOf i).toNat)
  case atStart => exact ⟨0, none, 0, A1, n1, c1, by omega, rfl, rfl, Own.nil_, H1.out.1, H1.out.2, hz1⟩
  case round =>
    obtain ⟨j, A3, c3, A2, n2, c2, hj, rfl, rfl, hO, hR, hC, hz⟩ := hrel
    have HI := Lib.hid (And.intro hO (And.intro hR hC))
    clear hO hR hC H1
    by_cases hlt : j < n
    · obtain ⟨x, hx⟩ : ∃ x, L[j]? = some x := ⟨L[j]'(by have := HLn.out; omega), List.getElem?_eq_getElem _⟩
      obtain ⟨m, hm⟩ : ∃ m, n - j = m + 1 := ⟨n - j - 1, by omega⟩
      rw [hm]
      have hdr := dsP_drop hx
      have hRe := HI.out.2.1
      rw [hdr, List.append_assoc] at hRe
      have HRe := Lib.hid hRe
      have CX := Lib.hid (CD.out x (HV.out.2 x (List.mem_of_getElem? hx)) (dsP (L.drop (j + 1)) ++ R))
      have htk := Lib.hid (show L.take (j + 1) = L.take j ++ [x] by rw [List.take_add_one, hx]; rfl)
      have hlj := Lib.hid (show (L.take j).length = j by rw [List.length_take]; have := HLn.out; omega)
      obtain ⟨⟨d, i⟩, q⟩ := x
      simp only at CX
      clear hx hdr hRe
      have hm1 : (0 : Int) < ((m + 1 : Nat) : Int) := by omega
      go_wp2_with fail
      refine (CE.out _ _ _ _ _ HRe.out).mono ?_; rintro e w5 ⟨rfl, rfl⟩
      go_wp2_with fail
      refine (CX.out _ _ _ _ HRe.out).mono ?_; rintro e w6 ⟨A6, n6, c6, rfl, hR6, ch6⟩
      have hz6 : N ≤ w6.heap.size := Nat.le_trans hz ch6.size
      have hO6 : Own w6 N 111 3 A3 j c3 (dts (L.take j)) := HI.out.1.ch ch6 (fun g _ _ hg e => by have := HI.out.1.bl_lo g hg; omega)
      have hb7 : Below N w6 (w6.alloc (.cells #[.int .i64 d, .int .i64 i, .int .i64 q] 50)) := (Below.refl N w6).alloc hz6 _
      have hO7 := hO6.alloc (.cells #[.int .i64 d, .int .i64 i, .int .i64 q] 50)
      have h7 := Lib.hid (C3.new w6 d i q 50)
      obtain ⟨A8, c8, w8, q8, o8, ch8, b8⟩ := app1 (w6.alloc (.cells #[.int .i64 d, .int .i64 i, .int .i64 q] 50)) N A3 j c3 (L.take j) hlj.out hO7 ((d, i), q) (by omega) (by simp; omega)
      have hbl := hb7.trans b8
      have HF := Lib.hid (And.intro o8 (And.intro (hR6.far hbl (by omega)) (And.intro (Ch.belowN (HI.out.2.2.trans ch6 (fun k _ h => h)) hbl (by omega)) (Nat.le_trans hz6 hbl.size))))
      rw [show (w6.alloc (.cells #[.int .i64 d, .int .i64 i, .int .i64 q] 50)).heap.size = w6.heap.size + 1 by simp] at q8
      have Q8 := Lib.hid q8
      clear hO6 hb7 hO7 o8 ch8 b8 hbl hR6 ch6 q8
      obtain ⟨k0, k1, k2⟩ := h7.out
      have hm2 : n - (j + 1) = m := by omega
      have HM2 := Lib.hid hm2
      clear hm2
      have hm3 : m < 18446744073709551615 := by omega
      go_wp2_with (at_builtin; refine wpList_want (by rfl) (fun K hK => wp_append_runs _ _ _ _ _ rfl _ _ rfl rfl _ _ Q8.out (hK _ _ ?_)))
      go_wp2
      go_roundw
      case rel =>
        exact ⟨j + 1, A8, c8, A6, n6, c6, by omega, by rw [HM2.out], rfl, by rw [htk.out]; exact HF.out.1, HF.out.2.1, HF.out.2.2.1, HF.out.2.2.2⟩
      case measure => simp only [intOf]; omega
    · have hj' : n = j := by omega
      subst hj'
      have hO := HI.out.1
      have hR := HI.out.2.1
      have hz0 : n - n = 0 := by omega
      rw [List.take_of_length_le (by have := HLn.out; omega)] at hO
      rw [List.drop_of_length_le (by have := HLn.out; omega)] at hR
      have hM : MsAt wr A3 L := MsAt.own (by rw [HLn.out]; exact hO)
      have HE := Lib.hid (And.intro hM (And.intro (show Re wr b A2 n2 c2 R 0 from by simpa [dsP] using hR) (show ∀ k, bl A3 = some k → N ≤ k from fun k hk => hO.bl_lo k hk)))
      clear hO hR hM
      rw [hz0]
      go_wp2_with fail
      refine (CE.out _ _ _ _ _ HE.out.2.1).mono ?_; rintro e w5 ⟨rfl, rfl⟩
      go_wp2_with fail
      refine (CC.out _ _ _ HE.out.1).mono ?_; rintro e w6 ⟨rfl, b6⟩
      have HG := Lib.hid (And.intro (HE.out.1.up b6) (And.intro (HE.out.2.1.far b6 (by omega)) (Ch.belowN HI.out.2.2 b6 (by omega))))
      clear b6
      go_wp2_with fail
      refine (CE.out _ _ _ _ _ HG.out.2.1).mono ?_; rintro e w7 ⟨rfl, rfl⟩
      have HX := Lib.hid (show GetE w b L R (.returned (.slice A3 n c3)) w6 from ⟨A3, c3, A2, n2, c2, by rw [HLn.out], HG.out.1, by rw [hN]; exact HE.out.2.2, HG.out.2.1, HG.out.2.2⟩)
      go_wp2
      go_ret
      exact HX.out
end Go.Proofs.YtpakmeegldgjmaaGreat
/- Slices of whatever, opened: a list of elements, each as its cells. -/
namespace Go.Proofs.YtpakmeegldgjmaaGreat
open Go.ChangeShapes Go.WideShapes Go.ChangeAt Go.RowKit Go.Deep
set_option linter.unusedVariables false
set_option maxRecDepth 100000

theorem flatMap_atG {α : Type} (C : α → List Value) (k : Nat) (hk : 0 < k) (hC : ∀ x, (C x).length = k) : ∀ (L : List α) (j : Nat), (L.flatMap C)[j]? = (L[j / k]?).bind fun x => (C x)[j % k]?
  | [], j => by simp
  | x :: r, j => by
    rw [List.flatMap_cons]
    by_cases h : j < k
    · rw [List.getElem?_append_left (by rw [hC]; exact h), Nat.div_eq_of_lt h, Nat.mod_eq_of_lt h]
      simp
    · rw [List.getElem?_append_right (by rw [hC]; omega), hC, flatMap_atG C k hk hC r (j - k)]
      have e : j / k = (j - k) / k + 1 := by rw [← Nat.sub_add_cancel (show k ≤ j by omega), Nat.add_div_right _ hk]; simp
      rw [e, List.getElem?_cons_succ, show (j - k) % k = j % k from (Nat.mod_eq_sub_mod (by omega)).symm]
theorem flatMap_lenG {α : Type} (C : α → List Value) (k : Nat) (hC : ∀ x, (C x).length = k) (L : List α) : (L.flatMap C).length = L.length * k := by
  induction L with
  | nil => simp
  | cons x r ih => rw [List.flatMap_cons, List.length_append, hC, ih, List.length_cons, Nat.succ_mul, Nat.add_comm]
theorem addr_addG (b x y : Nat) : (⟨b, x, none⟩ : Addr).add y = ⟨b, x + y, none⟩ := by by_cases hy : y = 0 <;> simp [Addr.add, hy]
/-- The elements of a slice, read where they lie. -/
theorem elems_of_trod {H : Type} {enc : TypeId × Value → H} {W : World} {P : Program} {t e : TypeId} {k : Nat} {X : Type} (C : X → List Value) (Ok : X → Prop) (y0 : X) (ht : P.underlying t = some (.slice e)) (hC : P.cellsOf e = k) (hk : 0 < k) (hl : ∀ y, (C y).length = k)
    (hel : ∀ fuel cs x, DataW.trod enc P W 0 (fun _ => true) true fuel e cs = some x → ∃ y, cs = C y ∧ Ok y)
    {fuel : Nat} {cs : List Value} {x : DataW H × List MemPlace} (hf : DataW.trod enc P W 0 (fun _ => true) true fuel t cs = some x) :
    ∃ A c, ∃ L : List X, cs = [.slice A L.length c] ∧ L.length ≤ c ∧ c ≤ maxLen ∧ Rd W W.heap.size k A L.length (L.flatMap C) ∧ ∀ y ∈ L, Ok y := by
  rcases open_slice ht hf with ⟨hcs, _⟩ | ⟨a, len, cp, m, n', D, Pl, hcs, _, hln, hm, hmm, _, hi⟩
  · exact ⟨none, 0, [], hcs, Nat.le_refl _, by simp [maxLen], ⟨by simp, fun h => absurd h (by simp)⟩, by simp⟩
  · simp at hmm
    subst hmm
    have hF : ∀ i, ∃ y : X, i < len → Ok y ∧ ∀ j, j < k → W.cell? ((a.add (i * k)).add j) = (C y)[j]? := by
      intro i
      by_cases hin : i < len
      · obtain ⟨cs', hc, ht'⟩ := hi i (by omega)
        rw [hC] at hc
        obtain ⟨_, hcl, hat⟩ := World.cells?_some hc
        obtain ⟨y, rfl, hy⟩ := hel _ _ _ ht'
        exact ⟨y, fun _ => ⟨hy, fun j hj => hat j hj⟩⟩
      · exact ⟨y0, fun h => absurd h hin⟩
    obtain ⟨F, hF⟩ := Classical.axiomOfChoice hF
    have hlen : ((List.range len).map F).length = len := by simp
    refine ⟨some a, _, (List.range len).map F, by rw [hlen]; exact hcs, by rw [hlen]; exact hln, hm, ⟨by rw [flatMap_lenG C k hl], fun hn => ?_⟩, fun y hy => ?_⟩
    · rw [hlen] at hn
      have hn0 : 0 < len := Nat.pos_of_ne_zero fun e => by subst e; simp at hn
      have h0 := ((hF 0) hn0).2 0 hk
      rw [List.getElem?_eq_getElem (by rw [hl]; exact hk)] at h0
      obtain ⟨b, off, spot⟩ := a
      have hspot : spot = none := by simpa [Addr.add] using World.cell?_spot h0
      subst hspot
      have hlt : b < W.heap.size := by
        rcases Nat.lt_or_ge b W.heap.size with hlt | hge
        · exact hlt
        · simp [World.cell?, Addr.add, Array.getElem?_eq_none hge] at h0
      refine ⟨b, off, rfl, hlt, fun j u hu => ?_⟩
      rw [flatMap_atG C k hk hl] at hu
      have hj : j / k < len := by
        rcases Nat.lt_or_ge (j / k) len with h | h
        · exact h
        · rw [List.getElem?_eq_none (by rw [hlen]; exact h)] at hu; cases hu
      rw [List.getElem?_map, List.getElem?_range hj] at hu
      have hc := ((hF (j / k)) hj).2 (j % k) (Nat.mod_lt _ hk)
      rw [addr_addG, addr_addG, Nat.add_assoc, Nat.mul_comm, Nat.div_add_mod] at hc
      rw [hc]
      exact hu
    · obtain ⟨i, hi', rfl⟩ := List.mem_map.1 hy
      exact ((hF i) (by simpa using hi')).1
end Go.Proofs.YtpakmeegldgjmaaGreat
/- Loads and stores of whole structs, without opening them cell by cell; structs that lie in a slice. -/
namespace Go.Proofs.YtpakmeegldgjmaaGreat
open Go.RowKit
set_option linter.unusedVariables false
set_option maxRecDepth 100000

def setMany (C : Array Value) : Nat → List Value → Array Value
  | _, [] => C
  | o, v :: r => setMany (C.setIfInBounds o v) (o + 1) r
theorem setMany_at (vs : List Value) : ∀ (C : Array Value) (o i : Nat), o + vs.length ≤ C.size → (setMany C o vs)[i]? = if o ≤ i ∧ i < o + vs.length then vs[i - o]? else C[i]? := by
  induction vs with
  | nil => intro C o i h; rw [if_neg (by simp)]; rfl
  | cons v r ih =>
    intro C o i h
    unfold setMany
    rw [ih _ _ _ (by rw [Array.size_setIfInBounds]; simp at h; omega), Array.getElem?_setIfInBounds]
    simp at h
    by_cases h1 : o = i
    · subst h1
      rw [if_neg (by omega), if_pos rfl, if_pos (by omega), if_pos (by simp)]
      simp
    · by_cases h2 : o + 1 ≤ i ∧ i < o + 1 + r.length
      · rw [if_pos h2, if_pos (by simp; omega)]
        obtain ⟨k, hk⟩ : ∃ k, i - o = k + 1 := ⟨i - o - 1, by omega⟩
        rw [hk, show i - (o + 1) = k by omega]
        simp
      · rw [if_neg h2, if_neg h1, if_neg (by simp; omega)]
theorem setMany_all (vs : List Value) (C : Array Value) (h : vs.length = C.size) : setMany C 0 vs = vs.toArray := by
  apply Array.ext_getElem?
  intro i
  rw [setMany_at _ _ _ _ (by omega)]
  by_cases hi : i < vs.length
  · rw [if_pos (by omega)]; simp
  · rw [if_neg (by omega), Array.getElem?_eq_none (by omega)]; simp; omega
theorem heap_setCells {g : Nat} {t : TypeId} {fr : Nat × Nat} (vs : List Value) : ∀ (W : World) (C : Array Value) (o : Nat), W.heap[g]? = some (.cells C t fr) → (W.setCells g o vs).heap[g]? = some (.cells (setMany C o vs) t fr) := by
  induction vs with
  | nil => intro W C o h; exact h
  | cons v r ih =>
    intro W C o h
    unfold World.setCells setMany
    exact ih _ _ _ (by simp [World.setCell, Array.getElem?_modify, h])
theorem ch_setCells (g : Nat) (vs : List Value) : ∀ (W : World) (o : Nat), Ch (fun k => k = g) W (W.setCells g o vs) ∧ (W.setCells g o vs).heap.size = W.heap.size := by
  induction vs with
  | nil => intro W o; exact ⟨⟨rfl, rfl, rfl, Nat.le_refl _, fun k _ _ => rfl⟩, rfl⟩
  | cons v r ih =>
    intro W o
    unfold World.setCells
    have h := ih (W.setCell ⟨g, o, none⟩ v) (o + 1)
    have h0 := Ch.set_ W ⟨g, o, none⟩ v
    exact ⟨h0.trans h.1 (fun k _ hk => hk), h.2.trans (by simp)⟩
section
variable {P : Program} {W : World} {g : Nat} {t T : TypeId} {cs : Array Value} {d : TypeDesc} {ops : Array Oper} {rest : List Oper} {op : Oper} {a : Act} {Q : Exit → Act → World → Prop}
theorem Whole.range (h : Whole W g t cs) : W.rangeAt g 0 cs.toList := fun j v hv => by rw [Nat.zero_add, h.cell, ← Array.getElem?_toList]; exact hv
/-- The load of a whole block's struct, at an operation of a plain region. -/
theorem ld_whole (hg : Region.wanted op (yielded ops a.tmps) = true) (x : Operand) (ho : op.op = .load T x) (hx : a.eval x = .pointer (some ⟨g, 0, none⟩)) (hW : Whole W g t cs) (hu : P.underlying T = some d) (hd : d.isRow = true) (hi : (P.info? T).map (·.size) = some cs.size)
    (h : wpList P ops Q rest (a.put op.dst (.agg cs)) W) : wpList P ops Q (op :: rest) a W :=
  wpList_want hg fun K hK => wp_load_mid T x ho g 0 hx cs.toList d hW.range hu hd (by rw [hi]; simp) (hK _ _ (by simpa using h))
/-- The load of a struct that lies in a row. -/
theorem ld_range {b o : Nat} {vs : Array Value} (hg : Region.wanted op (yielded ops a.tmps) = true) (x : Operand) (ho : op.op = .load T x) (hx : a.eval x = .pointer (some ⟨b, o, none⟩)) (hW : W.rangeAt b o vs.toList) (hu : P.underlying T = some d) (hd : d.isRow = true) (hi : (P.info? T).map (·.size) = some vs.size)
    (h : wpList P ops Q rest (a.put op.dst (.agg vs)) W) : wpList P ops Q (op :: rest) a W :=
  wpList_want hg fun K hK => wp_load_mid T x ho b o hx vs.toList d hW hu hd (by rw [hi]; simp) (hK _ _ (by simpa using h))
/-- The store of a struct into a whole block. -/
theorem st_whole {C : Array Value} (hg : Region.wanted op (yielded ops a.tmps) = true) (x y : Operand) (ho : op.op = .store T x y) (hx : a.eval x = .pointer (some ⟨g, 0, none⟩)) (hy : a.eval y = .agg cs) (hW : Whole W g t C) (hs : C.size = cs.size) (hi : (P.info? T).map (·.size) = some cs.size) (h1 : cs.toList.all (·.oneCell') = true)
    (h : ∀ W', Whole W' g t cs → Ch (fun k => k = g) W W' → W'.heap.size = W.heap.size → wpList P ops Q rest (a.put op.dst undef) W') : wpList P ops Q (op :: rest) a W :=
  wpList_want hg fun K hK => wp_store_mid T x y ho g 0 cs hx hy (fun j hj => ⟨by rw [Nat.zero_add, hW.cell]; simp [hs, hj], hW.free _⟩) hi (by rw [← Array.all_toList]; exact h1) (hK _ _ (h _ (by
    have := heap_setCells cs.toList W C 0 hW
    rw [setMany_all _ _ (by simp [hs]), Array.toArray_toList] at this
    exact this) (ch_setCells _ _ _ _).1 (ch_setCells _ _ _ _).2))
/-- A load under an S that tells the range, in a region that draws its order. -/
theorem take_range {S : World → Prop} {b o : Nat} {vs : Array Value} (hw : Region.wanted op (yielded ops a.tmps) = true) (x : Operand) (ho : op.op = .load T x) (hx : a.eval x = .pointer (some ⟨b, o, none⟩)) (hS : ∀ w, S w → w.rangeAt b o vs.toList) (hu : P.underlying T = some d) (hd : d.isRow = true) (hi : (P.info? T).map (·.size) = some vs.size) : YieldsIf P ops S op (.agg vs) a := by
  have h := yieldsIf_load_mid (P := P) (ops := ops) (S := S) (op := op) (a := a) hw T x ho b o hx vs.toList d hS hu hd (by rw [hi]; simp)
  simpa using h
end
/-- A struct out of a slice of such. -/
theorem rd_range {α : Type} {C : α → List Value} {k : Nat} (hk : 0 < k) (hC : ∀ x, (C x).length = k) {W : World} {B i : Nat} {A : Option Addr} {L : List α} {x : α} (h : Rd W B k A L.length (L.flatMap C)) (hx : L[i]? = some x) :
    ∃ b o, A = some ⟨b, o, none⟩ ∧ b < B ∧ W.rangeAt b (o + i * k) (C x) := by
  have hi : i < L.length := (List.getElem?_eq_some_iff.1 hx).1
  obtain ⟨b, o, hA, hb, hc⟩ := h.2 (Nat.mul_pos (by omega) hk)
  refine ⟨b, o, hA, hb, fun j v hv => ?_⟩
  have hj : j < k := by have := (List.getElem?_eq_some_iff.1 hv).1; rw [hC] at this; exact this
  have e := flatMap_atG C k hk hC L (i * k + j)
  rw [Nat.mul_comm i k, Nat.mul_add_div hk, Nat.div_eq_of_lt hj, Nat.add_zero, hx, Nat.mul_add_mod, Nat.mod_eq_of_lt hj] at e
  have := hc (k * i + j) v (by rw [e]; exact hv)
  rw [Nat.mul_comm k i, ← Nat.add_assoc] at this
  exact this
end Go.Proofs.YtpakmeegldgjmaaGreat
/- Texts, plain: small letters, blanks, parts, numbers, names of hosts. -/
namespace Go.Proofs.YtpakmeegldgjmaaGreat
set_option linter.unusedVariables false

def lowB (c : UInt8) : UInt8 := if 65 ≤ c.toNat ∧ c.toNat ≤ 90 then UInt8.ofNat (c.toNat + 32) else c
def lowL (l : List UInt8) : List UInt8 := l.map lowB
def blankB (c : UInt8) : Bool := c.toNat == 32 || c.toNat == 9
/-- No blank at an end. -/
def endsB (l : List UInt8) : Bool := !(l.head?.any blankB) && !(l.getLast?.any blankB)
def ctlB (c : UInt8) : Bool := (decide (c.toNat < 32) && c.toNat != 9) || c.toNat == 127
def ctlL (l : List UInt8) : Bool := l.any ctlB
def hasB (l : List UInt8) (c : Nat) : Bool := l.any fun x => x.toNat == c
def digB (c : UInt8) : Bool := decide (48 ≤ c.toNat) && decide (c.toNat ≤ 57)
/-- The parts between bytes. -/
def splitL (c : Nat) : List UInt8 → List (List UInt8)
  | [] => [[]]
  | x :: r => if x.toNat = c then [] :: splitL c r else
    match splitL c r with
    | [] => [[x]]
    | a :: t => (x :: a) :: t
theorem splitL_ne (c : Nat) (l : List UInt8) : splitL c l ≠ [] := by
  cases l with
  | nil => simp [splitL]
  | cons x r =>
    unfold splitL
    split
    · simp
    · split <;> simp
theorem splitL_all {c : Nat} (l : List UInt8) : ∀ x ∈ l, x.toNat = c ∨ ∃ p ∈ splitL c l, x ∈ p := by
  induction l with
  | nil => intro x hx; cases hx
  | cons y r ih =>
    intro x hx
    unfold splitL
    split
    · rename_i hy
      rcases List.mem_cons.1 hx with rfl | hx
      · exact .inl hy
      · rcases ih x hx with h | ⟨p, hp, h⟩
        · exact .inl h
        · exact .inr ⟨p, List.mem_cons_of_mem _ hp, h⟩
    · cases e : splitL c r with
      | nil => exact absurd e (splitL_ne c r)
      | cons a t =>
        simp only
        rcases List.mem_cons.1 hx with rfl | hx
        · exact .inr ⟨_, List.mem_cons_self .., List.mem_cons_self ..⟩
        · rcases ih x hx with h | ⟨p, hp, h⟩
          · exact .inl h
          · rw [e] at hp
            rcases List.mem_cons.1 hp with rfl | hp
            · exact .inr ⟨_, List.mem_cons_self .., List.mem_cons_of_mem _ h⟩
            · exact .inr ⟨p, List.mem_cons_of_mem _ hp, h⟩
/-- A number's digits, read; no more than 2^40. -/
def numF (n : Nat) (l : List UInt8) : Nat := l.foldl (fun n c => min (n * 10 + (c.toNat - 48)) 1099511627776) n
def numL (l : List UInt8) : Nat := numF 0 l
theorem numF_le (l : List UInt8) (n : Nat) (hn : n ≤ 1099511627776) : numF n l ≤ 1099511627776 := by
  induction l generalizing n with
  | nil => exact hn
  | cons x r ih => exact ih _ (Nat.min_le_right _ _)
/-- A number of an address. -/
def octB (p : List UInt8) : Bool := decide (p ≠ []) && p.all digB && decide (numL p ≤ 255) && !(decide (1 < p.length) && (p.head?.any fun c => c.toNat == 48))
/-- Names of hosts. -/
def signB (c : UInt8) : Bool := (decide (97 ≤ c.toNat) && decide (c.toNat ≤ 122)) || (decide (48 ≤ c.toNat) && decide (c.toNat ≤ 57)) || c.toNat == 45 || c.toNat == 95
def labelB (l : List UInt8) : Bool := decide (1 ≤ l.length) && decide (l.length ≤ 63) && l.all signB && !(l.head?.any fun c => c.toNat == 45) && !(l.getLast?.any fun c => c.toNat == 45)
def fourB (l : List UInt8) : Bool := decide ((splitL 46 l).length = 4) && (splitL 46 l).all octB
def hexB (c : UInt8) : Bool := (decide (48 ≤ c.toNat) && decide (c.toNat ≤ 57)) || (decide (97 ≤ c.toNat) && decide (c.toNat ≤ 102)) || c.toNat == 58 || c.toNat == 46
def brackB (l : List UInt8) : Bool := decide (4 ≤ l.length) && decide (l.length ≤ 47) && (l.head?.any fun c => c.toNat == 91) && (l.getLast?.any fun c => c.toNat == 93) && ((l.drop 1).take (l.length - 2)).all hexB
def addrB (l : List UInt8) : Bool := fourB l || brackB l
def labsB (l : List UInt8) : Bool := (splitL 46 l).all labelB
/-- A name, as the program has it; and as the document has it. -/
def nameB (l : List UInt8) : Bool := decide (l.length ≤ 256) && !addrB l && labsB l
def nameR (l : List UInt8) : Bool := decide (l.length ≤ 256) && !fourB l && labsB l
theorem label_sign {l : List UInt8} (h : labelB l = true) : ∀ x ∈ l, signB x = true := by
  unfold labelB at h
  simp only [Bool.and_eq_true] at h
  exact List.all_eq_true.1 h.1.1.2
theorem labs_sign {l : List UInt8} (h : labsB l = true) : ∀ x ∈ l, x.toNat = 46 ∨ signB x = true := fun x hx => by
  rcases splitL_all (c := 46) l x hx with h1 | ⟨p, hp, h1⟩
  · exact .inl h1
  · exact .inr (label_sign (List.all_eq_true.1 h p hp) x h1)
theorem name_eq (l : List UInt8) : nameB l = nameR l := by
  unfold nameB nameR
  cases hl : labsB l with
  | false => simp
  | true =>
    have hb : brackB l = false := by
      rw [Bool.eq_false_iff]
      intro hb
      unfold brackB at hb
      simp only [Bool.and_eq_true] at hb
      have h91 := hb.1.1.2
      cases l with
      | nil => cases h91
      | cons x r =>
        simp at h91
        rcases labs_sign hl x (List.mem_cons_self ..) with h | h
        · omega
        · unfold signB at h
          rw [h91] at h
          simp at h
    unfold addrB
    rw [hb, Bool.or_false]
theorem lowB_id {x : UInt8} (h : ¬ (65 ≤ x.toNat ∧ x.toNat ≤ 90)) : lowB x = x := by
  unfold lowB
  rw [if_neg h]
theorem lowL_id {l : List UInt8} (h : ∀ x ∈ l, ¬ (65 ≤ x.toNat ∧ x.toNat ≤ 90)) : lowL l = l := by
  unfold lowL
  exact (List.map_congr_left fun x hx => lowB_id (h x hx)).trans (List.map_id _)
theorem lowL_len (l : List UInt8) : (lowL l).length = l.length := by simp [lowL]
theorem sign_low {x : UInt8} (h : signB x = true) : ¬ (65 ≤ x.toNat ∧ x.toNat ≤ 90) := by
  unfold signB at h
  simp only [Bool.or_eq_true, Bool.and_eq_true, decide_eq_true_eq, beq_iff_eq] at h
  omega
theorem labs_low {l : List UInt8} (h : labsB l = true) : lowL l = l := lowL_id fun x hx => by
  rcases labs_sign h x hx with h1 | h1
  · omega
  · exact sign_low h1
theorem four_low {l : List UInt8} (h : fourB l = true) : lowL l = l := lowL_id fun x hx => by
  unfold fourB at h
  rw [Bool.and_eq_true] at h
  rcases splitL_all (c := 46) l x hx with h1 | ⟨p, hp, h1⟩
  · omega
  · have := List.all_eq_true.1 h.2 p hp
    unfold octB at this
    simp only [Bool.and_eq_true] at this
    have := List.all_eq_true.1 this.1.1.2 x h1
    unfold digB at this
    rw [Bool.and_eq_true, decide_eq_true_eq, decide_eq_true_eq] at this
    omega
theorem brack_low {l : List UInt8} (h : brackB l = true) : lowL l = l := lowL_id fun x hx => by
  unfold brackB at h
  simp only [Bool.and_eq_true] at h
  obtain ⟨⟨⟨⟨h1, h2⟩, h3⟩, h4⟩, h5⟩ := h
  rw [decide_eq_true_eq] at h1 h2
  obtain ⟨i, hi, rfl⟩ := List.mem_iff_getElem.1 hx
  by_cases e0 : i = 0
  · subst e0
    have : l.head? = some l[0] := by rw [List.head?_eq_getElem?, List.getElem?_eq_getElem hi]
    rw [this] at h3
    simp at h3
    omega
  · by_cases e1 : i = l.length - 1
    · have : l.getLast? = some l[i] := by rw [List.getLast?_eq_getElem?, ← e1, List.getElem?_eq_getElem hi]
      rw [this] at h4
      simp at h4
      omega
    · have hm : l[i] ∈ (l.drop 1).take (l.length - 2) := by
        refine List.mem_iff_getElem?.2 ⟨i - 1, ?_⟩
        rw [List.getElem?_take, if_pos (by omega), List.getElem?_drop, show 1 + (i - 1) = i by omega, List.getElem?_eq_getElem hi]
      have := List.all_eq_true.1 h5 _ hm
      unfold hexB at this
      simp only [Bool.or_eq_true, Bool.and_eq_true, decide_eq_true_eq, beq_iff_eq] at this
      omega
/-- A host's name or address, as it has to be. -/
def canonB (l : List UInt8) : Bool := decide (l.length ≤ 256) && (nameR l || addrB l)
theorem canon_low {l : List UInt8} (h : canonB l = true) : lowL l = l := by
  unfold canonB at h
  rw [Bool.and_eq_true, Bool.or_eq_true] at h
  rcases h.2 with h | h
  · unfold nameR at h
    simp only [Bool.and_eq_true] at h
    exact labs_low h.2
  · unfold addrB at h
    rw [Bool.or_eq_true] at h
    rcases h with h | h
    · exact four_low h
    · exact brack_low h
/-- Of any text: made small it is a name or an address, and it is small: just where it is canonical. -/
theorem canon_iff (l : List UInt8) : (decide (l.length ≤ 256) && (nameB (lowL l) || addrB (lowL l)) && decide (lowL l = l)) = canonB l := by
  rw [Bool.eq_iff_iff]
  constructor
  · intro h
    simp only [Bool.and_eq_true, decide_eq_true_eq] at h
    obtain ⟨⟨h1, h2⟩, h3⟩ := h
    rw [h3] at h2
    unfold canonB
    rw [← name_eq, h2, decide_eq_true h1]
    rfl
  · intro h
    have h3 := canon_low h
    unfold canonB at h
    rw [← name_eq] at h
    rw [h3, h]
    simp
end Go.Proofs.YtpakmeegldgjmaaGreat
/- Texts by places, plain: the byte at a place, the first place of a byte, blanks, digits, numbers. -/
namespace Go.Proofs.YtpakmeegldgjmaaGreat
set_option linter.unusedVariables false

/-- The byte at a place. -/
def ax (l : List UInt8) (j : Nat) : Nat := (l.getD j 0).toNat
theorem ax_lt (l : List UInt8) (j : Nat) : ax l j < 256 := by unfold ax; exact UInt8.toNat_lt _
theorem ax_get {l : List UInt8} {j : Nat} {x : UInt8} (h : l[j]? = some x) : ax l j = x.toNat := by unfold ax; rw [List.getD_eq_getElem?_getD, h]; rfl
theorem ax_el {l : List UInt8} {j : Nat} (h : j < l.length) : ax l j = (l[j]).toNat := ax_get (List.getElem?_eq_getElem h)
theorem ax_cons0 (x : UInt8) (r : List UInt8) : ax (x :: r) 0 = x.toNat := rfl
theorem ax_cons (x : UInt8) (r : List UInt8) (j : Nat) : ax (x :: r) (j + 1) = ax r j := by simp [ax]
theorem any_no {p : UInt8 → Bool} {q : Nat → Bool} (hp : ∀ x, p x = q x.toNat) {l : List UInt8} (h : ∀ j, j < l.length → q (ax l j) = false) : l.any p = false := by
  rw [List.any_eq_false]
  intro x hx
  obtain ⟨i, hi, rfl⟩ := List.mem_iff_getElem.1 hx
  have := h i hi
  rw [ax_el hi, ← hp] at this
  rw [this]
  simp
theorem any_at {p : UInt8 → Bool} {q : Nat → Bool} (hp : ∀ x, p x = q x.toNat) {l : List UInt8} {j : Nat} (hj : j < l.length) (h : q (ax l j) = true) : l.any p = true := by
  rw [List.any_eq_true]
  exact ⟨l[j], List.getElem_mem hj, by rw [hp, ← ax_el hj]; exact h⟩
theorem all_yes {p : UInt8 → Bool} {q : Nat → Bool} (hp : ∀ x, p x = q x.toNat) {l : List UInt8} (h : ∀ j, j < l.length → q (ax l j) = true) : l.all p = true := by
  rw [List.all_eq_true]
  intro x hx
  obtain ⟨i, hi, rfl⟩ := List.mem_iff_getElem.1 hx
  rw [hp, ← ax_el hi]
  exact h i hi
theorem all_at {p : UInt8 → Bool} {q : Nat → Bool} (hp : ∀ x, p x = q x.toNat) {l : List UInt8} {j : Nat} (hj : j < l.length) (h : q (ax l j) = false) : l.all p = false := by
  rw [List.all_eq_false]
  exact ⟨l[j], List.getElem_mem hj, by rw [hp, ← ax_el hj, h]; simp⟩
theorem all_get {p : UInt8 → Bool} {q : Nat → Bool} (hp : ∀ x, p x = q x.toNat) {l : List UInt8} (h : l.all p = true) {j : Nat} (hj : j < l.length) : q (ax l j) = true := by
  rw [ax_el hj, ← hp]
  exact List.all_eq_true.1 h _ (List.getElem_mem hj)
theorem head_ax {l : List UInt8} {p : UInt8 → Bool} {q : Nat → Bool} (hp : ∀ x, p x = q x.toNat) (h : 0 < l.length) : l.head?.any p = q (ax l 0) := by
  cases l with
  | nil => simp at h
  | cons x r => simp [ax_cons0, hp]
theorem last_ax {l : List UInt8} {p : UInt8 → Bool} {q : Nat → Bool} (hp : ∀ x, p x = q x.toNat) (h : 0 < l.length) : l.getLast?.any p = q (ax l (l.length - 1)) := by
  rw [List.getLast?_eq_getElem?, List.getElem?_eq_getElem (by omega), ax_el (by omega)]
  simp [hp]
/-- The first place of a byte; the length: it is not there. -/
def fdN (c : Nat) : List UInt8 → Nat
  | [] => 0
  | x :: r => if x.toNat = c then 0 else fdN c r + 1
theorem fdN_cons (c : Nat) (x : UInt8) (r : List UInt8) : fdN c (x :: r) = if x.toNat = c then 0 else fdN c r + 1 := rfl
theorem splitL_cons (c : Nat) (x : UInt8) (r : List UInt8) : splitL c (x :: r) = if x.toNat = c then [] :: splitL c r else (match splitL c r with | [] => [[x]] | a :: t => (x :: a) :: t) := rfl
theorem fdN_le (c : Nat) (l : List UInt8) : fdN c l ≤ l.length := by
  induction l with
  | nil => exact Nat.le_refl _
  | cons x r ih => unfold fdN; split; exact Nat.zero_le _; simp; exact ih
theorem fdN_hit {c : Nat} {l : List UInt8} {j : Nat} (hj : j < l.length) (h : ∀ i, i < j → ax l i ≠ c) (hc : ax l j = c) : fdN c l = j := by
  induction l generalizing j with
  | nil => simp at hj
  | cons x r ih =>
    unfold fdN
    cases j with
    | zero => rw [if_pos (by simpa [ax_cons0] using hc)]
    | succ j =>
      rw [if_neg (by have := h 0 (by omega); simpa [ax_cons0] using this), ih (by simpa using hj) (fun i hi => by have := h (i + 1) (by omega); rwa [ax_cons] at this) (by rwa [ax_cons] at hc)]
theorem fdN_none {c : Nat} {l : List UInt8} (h : ∀ i, i < l.length → ax l i ≠ c) : fdN c l = l.length := by
  induction l with
  | nil => rfl
  | cons x r ih =>
    unfold fdN
    rw [if_neg (by have := h 0 (by simp); simpa [ax_cons0] using this), ih (fun i hi => by have := h (i + 1) (by simpa using hi); rwa [ax_cons] at this)]
    rfl
theorem hasB_fd (l : List UInt8) (c : Nat) : hasB l c = decide (fdN c l < l.length) := by
  unfold hasB
  induction l with
  | nil => rfl
  | cons x r ih =>
    rw [List.any_cons, ih, fdN_cons]
    by_cases h : x.toNat = c
    · simp [h]
    · have : (x.toNat == c) = false := by simp [h]
      rw [this, if_neg h]
      simp
theorem splitL_fd (c : Nat) (l : List UInt8) : splitL c l = if fdN c l < l.length then l.take (fdN c l) :: splitL c (l.drop (fdN c l + 1)) else [l] := by
  induction l with
  | nil => rfl
  | cons x r ih =>
    rw [splitL_cons, fdN_cons]
    by_cases h : x.toNat = c
    · simp [h]
    · rw [if_neg h, if_neg h, ih]
      by_cases hl : fdN c r < r.length
      · rw [if_pos hl, if_pos (by simpa using hl)]
        simp
      · rw [if_neg hl, if_neg (by simpa using hl)]
theorem splitL_len (c : Nat) (l : List UInt8) : (splitL c l).length ≤ l.length + 1 := by
  induction l with
  | nil => simp [splitL]
  | cons x r ih =>
    unfold splitL
    split
    · simp; omega
    · split
      · simp
      · rename_i a t e
        rw [e] at ih
        simp at ih ⊢
        omega
theorem splitL_el (c : Nat) (l : List UInt8) : ∀ p ∈ splitL c l, p.length ≤ l.length := by
  induction l with
  | nil => intro p hp; simp [splitL] at hp; simp [hp]
  | cons x r ih =>
    intro p hp
    unfold splitL at hp
    split at hp
    · rcases List.mem_cons.1 hp with rfl | hp
      · simp
      · have := ih p hp; simp; omega
    · split at hp
      · simp at hp; simp [hp]
      · rename_i a t e
        rw [e] at ih
        rcases List.mem_cons.1 hp with rfl | hp
        · have := ih a (by simp); simp; omega
        · have := ih p (by simp [hp]); simp; omega
/-- Blanks. -/
def blN (c : Nat) : Bool := c == 32 || c == 9
theorem blankB_n (x : UInt8) : blankB x = blN x.toNat := rfl
def ltr (l : List UInt8) : List UInt8 := l.dropWhile blankB
def rtr (l : List UInt8) : List UInt8 := (l.reverse.dropWhile blankB).reverse
def trimL (l : List UInt8) : List UInt8 := rtr (ltr l)
theorem ltr_drop {m : List UInt8} (h : 0 < m.length) (hb : blN (ax m 0) = true) : ltr (m.drop 1) = ltr m := by
  cases m with
  | nil => simp at h
  | cons x r =>
    rw [ax_cons0, ← blankB_n] at hb
    unfold ltr
    rw [List.dropWhile_cons, if_pos hb]
    rfl
theorem ltr_stop {m : List UInt8} (h : 0 < m.length) (hb : blN (ax m 0) = false) : ltr m = m := by
  cases m with
  | nil => simp at h
  | cons x r =>
    rw [ax_cons0, ← blankB_n] at hb
    unfold ltr
    rw [List.dropWhile_cons, hb]
    rfl
theorem last_split {m : List UInt8} (h : 0 < m.length) : m = m.take (m.length - 1) ++ [m[m.length - 1]] := by
  have h1 := List.take_append_drop (m.length - 1) m
  rw [List.drop_eq_getElem_cons (by omega), List.drop_of_length_le (by omega)] at h1
  exact h1.symm
theorem rtr_take {m : List UInt8} (h : 0 < m.length) (hb : blN (ax m (m.length - 1)) = true) : rtr (m.take (m.length - 1)) = rtr m := by
  rw [ax_el (by omega), ← blankB_n] at hb
  have e := last_split h
  generalize m.take (m.length - 1) = t at *
  generalize m[m.length - 1] = z at *
  rw [e]
  unfold rtr
  rw [List.reverse_append]
  simp [hb]
theorem rtr_stop {m : List UInt8} (h : 0 < m.length) (hb : blN (ax m (m.length - 1)) = false) : rtr m = m := by
  rw [ax_el (by omega), ← blankB_n] at hb
  have e := last_split h
  generalize m.take (m.length - 1) = t at *
  generalize m[m.length - 1] = z at *
  rw [e]
  unfold rtr
  rw [List.reverse_append]
  simp [hb]
theorem ltr_len (l : List UInt8) : (ltr l).length ≤ l.length := by
  unfold ltr
  exact (List.dropWhile_sublist _).length_le
theorem rtr_len (l : List UInt8) : (rtr l).length ≤ l.length := by
  unfold rtr
  rw [List.length_reverse]
  exact Nat.le_trans (List.dropWhile_sublist _).length_le (by simp)
theorem trim_ends (l : List UInt8) : decide (trimL l = l) = endsB l := by
  unfold endsB
  by_cases h0 : 0 < l.length
  · rw [head_ax blankB_n h0, last_ax blankB_n h0]
    cases hb : blN (ax l 0) with
    | true =>
      have h1 := ltr_drop h0 hb
      have h2 : (trimL l).length < l.length := by
        unfold trimL
        have h3 := rtr_len (ltr l)
        rw [← h1] at h3
        have h4 := ltr_len (l.drop 1)
        rw [List.length_drop] at h4
        rw [← h1]
        omega
      rw [decide_eq_false (fun e => by rw [e] at h2; omega)]
      rfl
    | false =>
      unfold trimL
      rw [ltr_stop h0 hb]
      cases hc : blN (ax l (l.length - 1)) with
      | true =>
        have h1 := rtr_take h0 hc
        have h2 := rtr_len (l.take (l.length - 1))
        rw [List.length_take] at h2
        rw [h1] at h2
        rw [decide_eq_false (fun e => by rw [e] at h2; omega)]
        rfl
      | false =>
        rw [rtr_stop h0 hc, decide_eq_true rfl]
        rfl
  · cases l with
    | nil => rfl
    | cons x r => simp at h0
/-- Digits. -/
def dgT (c : Nat) : Bool := decide (48 ≤ c) && decide (c ≤ 57)
theorem digB_n (x : UInt8) : digB x = dgT x.toNat := rfl
def dgN : List UInt8 → Nat
  | [] => 0
  | x :: r => if digB x = true then dgN r + 1 else 0
theorem dgN_cons (x : UInt8) (r : List UInt8) : dgN (x :: r) = if digB x = true then dgN r + 1 else 0 := rfl
theorem dgN_le (l : List UInt8) : dgN l ≤ l.length := by
  induction l with
  | nil => exact Nat.le_refl _
  | cons x r ih => unfold dgN; split; simp; exact ih; exact Nat.zero_le _
theorem dgN_hit {l : List UInt8} {j : Nat} (hj : j ≤ l.length) (h : ∀ i, i < j → dgT (ax l i) = true) (hs : j < l.length → dgT (ax l j) = false) : dgN l = j := by
  induction l generalizing j with
  | nil => simp at hj; rw [hj]; rfl
  | cons x r ih =>
    unfold dgN
    cases j with
    | zero =>
      have := hs (by simp)
      rw [ax_cons0, ← digB_n] at this
      rw [this]
      rfl
    | succ j =>
      have := h 0 (by omega)
      rw [ax_cons0, ← digB_n] at this
      rw [if_pos this, ih (by simpa using hj) (fun i hi => by have := h (i + 1) (by omega); rwa [ax_cons] at this) (fun hl => by have := hs (by simpa using hl); rwa [ax_cons] at this)]
theorem all_dgN (l : List UInt8) : l.all digB = decide (dgN l = l.length) := by
  induction l with
  | nil => rfl
  | cons x r ih =>
    rw [List.all_cons, ih, dgN_cons]
    cases h : digB x with
    | true => simp
    | false => simp
theorem numL_step {l : List UInt8} {j : Nat} (h : j < l.length) : numL (l.take (j + 1)) = min (numL (l.take j) * 10 + (ax l j - 48)) 1099511627776 := by
  rw [List.take_add_one, List.getElem?_eq_getElem h, ax_el h]
  unfold numL numF
  rw [Option.toList_some, List.foldl_append]
  rfl
theorem numL_nil : numL [] = 0 := rfl
theorem numL_le (l : List UInt8) : numL l ≤ 1099511627776 := numF_le l 0 (by omega)
/-- Signs of a label. -/
def sgN (c : Nat) : Bool := (decide (97 ≤ c) && decide (c ≤ 122)) || (decide (48 ≤ c) && decide (c ≤ 57)) || c == 45 || c == 95
theorem signB_n (x : UInt8) : signB x = sgN x.toNat := rfl
/-- May a byte be in a label, at an end of it or within? -/
def sgE (c : Nat) (e : Bool) : Bool := if c = 45 then !e else sgN c
theorem label_ax (l : List UInt8) : labelB l = (decide (1 ≤ l.length) && decide (l.length ≤ 63) && l.all signB && !(ax l 0 == 45) && !(ax l (l.length - 1) == 45)) := by
  unfold labelB
  by_cases h0 : 0 < l.length
  · rw [head_ax (q := fun n => n == 45) (fun x => rfl) h0, last_ax (q := fun n => n == 45) (fun x => rfl) h0]
  · have : decide (1 ≤ l.length) = false := decide_eq_false (by omega)
    rw [this]
    rfl
theorem label_yes {l : List UInt8} (h1 : 1 ≤ l.length) (h2 : l.length ≤ 63) (h : ∀ j, j < l.length → sgE (ax l j) (decide (j = 0) || decide (j = l.length - 1)) = true) : labelB l = true := by
  rw [label_ax, decide_eq_true h1, decide_eq_true h2, all_yes signB_n (fun j hj => by
    have := h j hj
    unfold sgE at this
    split at this
    · rename_i e; rw [e]; rfl
    · exact this)]
  have h3 := h 0 (by omega)
  have h4 := h (l.length - 1) (by omega)
  unfold sgE at h3 h4
  by_cases e3 : ax l 0 = 45
  · rw [if_pos e3] at h3; simp at h3
  · by_cases e4 : ax l (l.length - 1) = 45
    · rw [if_pos e4] at h4; simp at h4
    · simp [e3, e4]
theorem label_at {l : List UInt8} {j : Nat} (hj : j < l.length) (h : sgE (ax l j) (decide (j = 0) || decide (j = l.length - 1)) = false) : labelB l = false := by
  rw [label_ax]
  unfold sgE at h
  by_cases e : ax l j = 45
  · rw [if_pos e] at h
    simp at h
    by_cases h0 : j = 0
    · subst h0; simp [e]
    · obtain rfl := h h0
      simp [e]
  · rw [if_neg e] at h
    rw [all_at signB_n hj h]
    simp
def ctN (c : Nat) : Bool := (decide (c < 32) && c != 9) || c == 127
theorem ctlB_q (x : UInt8) : ctlB x = ctN x.toNat := rfl
def hxN (c : Nat) : Bool := (decide (48 ≤ c) && decide (c ≤ 57)) || (decide (97 ≤ c) && decide (c ≤ 102)) || c == 58 || c == 46
theorem hexB_n (x : UInt8) : hexB x = hxN x.toNat := rfl
theorem brack_ax (l : List UInt8) : brackB l = (decide (4 ≤ l.length) && decide (l.length ≤ 47) && (ax l 0 == 91) && (ax l (l.length - 1) == 93) && ((l.drop 1).take (l.length - 2)).all hexB) := by
  unfold brackB
  by_cases h0 : 0 < l.length
  · rw [head_ax (q := fun n => n == 91) (fun x => rfl) h0, last_ax (q := fun n => n == 93) (fun x => rfl) h0]
  · have : decide (4 ≤ l.length) = false := decide_eq_false (by omega)
    rw [this]
    rfl
end Go.Proofs.YtpakmeegldgjmaaGreat
/- Texts as values: their bytes, parts, equality; layer 6 (ascii), of bytes: blank, digit, lower; layer 8 (host): sign. -/
namespace Go.Proofs.YtpakmeegldgjmaaGreat
open Go.RowKit
set_option linter.unusedVariables false
set_option maxRecDepth 100000

section
variable {P : Program} (w : World) (t : TypeId) (l m : List UInt8) (k k' : IntKind) (i j : Int)
theorem idx_bs (h : P.underlying t = some .string) (h0 : 0 ≤ i) (h1 : i < (l.length : Int)) : (Instr.index t (.string (bs l)) (.int k i)).run P w = .ok (.int .u8 (ax l i.toNat : Int)) w := by
  have hs : (bs l).size = l.length := rfl
  rw [run_index_string w t (bs l) k i h, dif_pos ⟨h0, by rw [hs]; exact h1⟩]
  have hi : i.toNat < l.length := by omega
  have e : (bs l)[i.toNat]'(by rw [hs]; exact hi) = l[i.toNat] := by
    show (bs l).data[i.toNat]'_ = _
    simp [bs]
  rw [e, ← ax_el hi]
theorem bs_cut (a b : Nat) : (bs l).extract a b = bs ((l.drop a).take (b - a)) := ByteArray.extract_mk l a b
theorem cut_bs (h : P.underlying t = some .string) (h0 : 0 ≤ i) (h1 : i ≤ j) (h2 : j ≤ (l.length : Int)) : (Instr.slice t (.string (bs l)) (some (.int k i)) (some (.int k' j)) none).run P w = .ok (.string (bs ((l.drop i.toNat).take (j.toNat - i.toNat)))) w := by
  rw [run_slice_string w t (bs l) k k' i j h h0 h1 h2, bs_cut]
theorem cut_from (h : P.underlying t = some .string) (h0 : 0 ≤ i) (h1 : i ≤ (l.length : Int)) : (Instr.slice t (.string (bs l)) (some (.int k i)) none none).run P w = .ok (.string (bs (l.drop i.toNat))) w := by
  have hj : 0 ≤ i ∧ i ≤ ((l.length : Nat) : Int) := ⟨h0, h1⟩
  have e : (bs l).extract i.toNat l.length = bs (l.drop i.toNat) := by rw [bs_cut, List.take_of_length_le (by simp)]
  have hs : (bs l).size = l.length := rfl
  simp [Instr.slice, Instr.sliceBounds, Instr.sliceBound, asIntOf, run_underlying h, hj, hs, e]
theorem cut_to (h : P.underlying t = some .string) (h0 : 0 ≤ j) (h1 : j ≤ (l.length : Int)) : (Instr.slice t (.string (bs l)) none (some (.int k j)) none).run P w = .ok (.string (bs (l.take j.toNat))) w := by
  have hj : 0 ≤ j ∧ j ≤ ((l.length : Nat) : Int) := ⟨h0, h1⟩
  have e : (bs l).extract 0 j.toNat = bs (l.take j.toNat) := by rw [bs_cut]; simp
  have hs : (bs l).size = l.length := rfl
  simp [Instr.slice, Instr.sliceBounds, Instr.sliceBound, asIntOf, run_underlying h, hj, hs, e]
theorem bs_list : (bs l).toList = l := ByteArray.toList_mk l
theorem bs_nil_list : (ByteArray.mk #[]).toList = [] := ByteArray.toList_mk []
end
theorem bs_get (l : List UInt8) (i : Nat) (h : i < (bs l).size) : ((bs l)[i]'h).toNat = ax l i := by
  have hi : i < l.length := h
  rw [ax_el hi]
  show ((bs l).data[i]'_).toNat = _
  simp [bs]
theorem ne_nil_beq {l : List UInt8} (h : 0 < l.length) : (l == []) = false := by cases l with | nil => simp at h | cons x r => rfl
attribute [local go_sem high] idx_bs cut_bs cut_from cut_to
attribute [local go_sem] bs_size bs_list bs_nil_list bs_get bs_cut

theorem blank_any (c : Nat) (w : World) : Calls Tryz.prog 164 #[.int .u8 (c : Int)] w fun e w' => e = .returned (.bool (blN c)) ∧ w = w' := by
  unfold blN
  by_cases h1 : c = 32
  · subst h1
    go_enter Tryz.func164, Tryz.ntmps164
    go_wp2
    go_ret
    exact ⟨rfl, rfl⟩
  · have t1 : ((c : Int) == 32) = false := by simp; omega
    have t2 : (c == 32) = false := by simp [h1]
    rw [t2]
    by_cases h2 : c = 9
    · subst h2
      go_enter Tryz.func164, Tryz.ntmps164
      go_wp2
      go_ret
      exact ⟨rfl, rfl⟩
    · have t3 : ((c : Int) == 9) = false := by simp; omega
      have t4 : (c == 9) = false := by simp [h2]
      rw [t4]
      go_enter Tryz.func164, Tryz.ntmps164
      go_wp2
      go_ret
      exact ⟨rfl, rfl⟩
theorem digit_any (c : Nat) (w : World) : Calls Tryz.prog 185 #[.int .u8 (c : Int)] w fun e w' => e = .returned (.bool (dgT c)) ∧ w = w' := by
  unfold dgT
  by_cases h1 : 48 ≤ c
  · have t1 : decide ((48 : Int) ≤ (c : Int)) = true := by simp; omega
    rw [decide_eq_true h1]
    by_cases h2 : c ≤ 57
    · have t3 : decide ((c : Int) ≤ 57) = true := by simp; omega
      rw [decide_eq_true h2]
      go_enter Tryz.func185, Tryz.ntmps185
      go_wp2
      go_ret
      exact ⟨rfl, rfl⟩
    · have t3 : decide ((c : Int) ≤ 57) = false := by simp; omega
      rw [decide_eq_false h2]
      go_enter Tryz.func185, Tryz.ntmps185
      go_wp2
      go_ret
      exact ⟨rfl, rfl⟩
  · have t1 : decide ((48 : Int) ≤ (c : Int)) = false := by simp; omega
    rw [decide_eq_false h1]
    go_enter Tryz.func185, Tryz.ntmps185
    go_wp2
    go_ret
    exact ⟨rfl, rfl⟩
def lowN (c : Nat) : Nat := if 65 ≤ c ∧ c ≤ 90 then c + 32 else c
theorem lowN_ax (l : List UInt8) (j : Nat) (hj : j < l.length) : ax (lowL l) j = lowN (ax l j) := by
  have hj' : j < (lowL l).length := by rw [lowL_len]; exact hj
  rw [ax_el hj', ax_el hj]
  have e : (lowL l)[j] = lowB l[j] := by simp [lowL]
  rw [e]
  unfold lowB lowN
  split
  · rw [UInt8.toNat_ofNat']
    omega
  · rfl
theorem lower_any (c : Nat) (hc : c < 256) (w : World) : Calls Tryz.prog 159 #[.int .u8 (c : Int)] w fun e w' => e = .returned (.int .u8 (lowN c : Int)) ∧ w = w' := by
  unfold lowN
  by_cases h1 : 65 ≤ c
  · have t1 : decide ((65 : Int) ≤ (c : Int)) = true := by simp; omega
    by_cases h2 : c ≤ 90
    · have t3 : decide ((c : Int) ≤ 90) = true := by simp; omega
      have t4 : IntKind.u8.wrap ((c : Int) + 97) = (c : Int) + 97 := by rw [IntKind.wrap_u8]; omega
      have t5 : IntKind.u8.wrap ((c : Int) + 97 - 65) = ((c + 32 : Nat) : Int) := by rw [IntKind.wrap_u8]; omega
      rw [if_pos ⟨h1, h2⟩]
      generalize c + 32 = r at *
      go_enter Tryz.func159, Tryz.ntmps159
      go_wp2
      go_ret
      exact ⟨by first | rfl | simp [t4, t5], rfl⟩
    · have t3 : decide ((c : Int) ≤ 90) = false := by simp; omega
      rw [if_neg (by omega)]
      go_enter Tryz.func159, Tryz.ntmps159
      go_wp2
      go_ret
      exact ⟨rfl, rfl⟩
  · have t1 : decide ((65 : Int) ≤ (c : Int)) = false := by simp; omega
    rw [if_neg (by omega)]
    go_enter Tryz.func159, Tryz.ntmps159
    go_wp2
    go_ret
    exact ⟨rfl, rfl⟩
theorem find_any (l : List UInt8) (c : Nat) (hl : l.length ≤ 1000000) (w : World) : Calls Tryz.prog 165 #[.string (bs l), .int .u8 (c : Int)] w fun e w' => e = .returned (.int .i64 (if fdN c l < l.length then (fdN c l : Int) else -1)) ∧ w = w' := by
  go_enter Tryz.func165, Tryz.ntmps165
  go_wp2
  go_step3
  go_wp2
  go_step3
  go_wp2
  go_loop [5, 9] (fun v i => v = .int .i64 (-1) ∧ ∃ j : Nat, j ≤ l.length ∧ i = .int .i64 j ∧ ∀ k, k < j → ax l k ≠ c) (fun _ i => l.length - (intOf i).toNat)
  case atStart => exact ⟨rfl, 0, by omega, rfl, fun k hk => absurd hk (by omega)⟩
  case round =>
    obtain ⟨rfl, j, hj, rfl, hk⟩ := hrel
    by_cases hlt : j < l.length
    · by_cases hx : ax l j = c
      · have hf := fdN_hit hlt hk hx
        subst hx
        go_wp2
        go_ret
        exact ⟨by first | rfl | (rw [hf, if_pos hlt]; rfl), rfl⟩
      · have t1 : ((ax l j : Int) == (c : Int)) = false := by simp; omega
        go_wp2
        go_round
        case rel => exact ⟨rfl, j + 1, by omega, by go_num, fun k hk' => by
          by_cases hkj : k = j
          · subst hkj; exact hx
          · exact hk k (by omega)⟩
        case measure => simp [intOf]; omega
    · have hf := fdN_none (c := c) (l := l) (fun k hk' => hk k (by omega))
      go_wp2
      go_ret
      exact ⟨by first | rfl | (rw [hf, if_neg (Nat.lt_irrefl _)]; rfl), rfl⟩
theorem control_any (l : List UInt8) (hl : l.length ≤ 1000000) (w : World) : Calls Tryz.prog 141 #[.string (bs l)] w fun e w' => e = .returned (.bool (ctlL l)) ∧ w = w' := by
  go_enter Tryz.func141, Tryz.ntmps141
  go_wp2
  go_loop [6] (fun i => ∃ j : Nat, j ≤ l.length ∧ i = .int .i64 j ∧ ∀ k, k < j → ctN (ax l k) = false) (fun i => l.length - (intOf i).toNat)
  case atStart => exact ⟨0, by omega, rfl, fun k hk => absurd hk (by omega)⟩
  case round =>
    obtain ⟨j, hj, rfl, hk⟩ := hrel
    by_cases hlt : j < l.length
    · cases hx : ctN (ax l j) with
      | true =>
        have hf : ctlL l = true := any_at ctlB_q hlt hx
        have HF := Lib.hid hf
        clear hf
        unfold ctN at hx
        by_cases h32 : ax l j < 32
        · by_cases h9 : ax l j = 9
          · rw [h9] at hx; simp at hx
          · have t1 : decide ((ax l j : Int) < 32) = true := by simp; omega
            have t2 : ((ax l j : Int) != 9) = true := by simp; omega
            go_wp2
            go_ret
            exact ⟨by rw [HF.out]; rfl, rfl⟩
        · have hc : ax l j = 127 := by simp [h32] at hx; exact hx
          go_wp2
          go_ret
          exact ⟨by rw [HF.out]; rfl, rfl⟩
      | false =>
        have hf : ∀ k, k < j + 1 → ctN (ax l k) = false := fun k hk' => by
          by_cases hkj : k = j
          · subst hkj; exact hx
          · exact hk k (by omega)
        unfold ctN at hx
        have HF := Lib.hid hf
        clear hk hf
        have h127 : ((ax l j : Int) == 127) = false := by
          simp
          intro e
          have e' : ax l j = 127 := by omega
          rw [e'] at hx
          simp at hx
        by_cases h32 : ax l j < 32
        · have h9 : ax l j = 9 := by simp [h32] at hx; exact hx.1
          go_wp2
          go_round
          case rel => exact ⟨j + 1, by omega, by go_num, HF.out⟩
          case measure => simp [intOf]; omega
        · have t1 : decide ((ax l j : Int) < 32) = false := by simp; omega
          go_wp2
          go_round
          case rel => exact ⟨j + 1, by omega, by go_num, HF.out⟩
          case measure => simp [intOf]; omega
    · have hf : ctlL l = false := any_no ctlB_q (fun k hk' => hk k (by omega))
      have HF := Lib.hid hf
      clear hf
      go_wp2
      go_ret
      exact ⟨by rw [HF.out]; rfl, rfl⟩
end Go.Proofs.YtpakmeegldgjmaaGreat
/- Layer 6 (ascii): Cut, Split, Trim, Digits, Number. -/
namespace Go.Proofs.YtpakmeegldgjmaaGreat
open Go.RowKit
set_option linter.unusedVariables false
set_option maxRecDepth 100000
attribute [local go_sem high] idx_bs cut_bs cut_from cut_to
attribute [local go_sem] bs_size bs_list bs_nil_list bs_get bs_cut

theorem cut_any (l : List UInt8) (c : Nat) (hl : l.length ≤ 1000000) (w : World) : Calls Tryz.prog 143 #[.string (bs l), .int .u8 (c : Int)] w fun e w' => e = .returned (.tuple #[.string (bs (l.take (fdN c l))), .string (bs (l.drop (fdN c l + 1))), .bool (decide (fdN c l < l.length))]) ∧ Below w.heap.size w w' := by
  have C1 := Lib.hid (find_any l c hl w)
  have hle := fdN_le c l
  by_cases h : fdN c l < l.length
  · rw [decide_eq_true h]
    rw [if_pos h] at C1
    have hk' : fdN c l < 1000000 := by omega
    generalize fdN c l = k at *
    have t1 : decide ((k : Int) < 0) = false := by simp
    have e1 : ((k : Int) + 1).toNat = k + 1 := by omega
    have h1 : (k : Int) + 1 ≤ (l.length : Int) := by omega
    have h2 : (0 : Int) ≤ (k : Int) + 1 := by omega
    have e2 : IntKind.i64.wrap ((k : Int) + 1) = (k : Int) + 1 := IntWalk.i64_in _ (by omega)
    go_enter Tryz.func143, Tryz.ntmps143
    go_wp2_with fail
    refine (C1.out).mono ?_; rintro e w1 ⟨rfl, rfl⟩
    go_wp2
    go_quiet (fail)
    go_wp2
    go_ret3
    exact ⟨rfl, below_drewN (Below.refl _ _) _⟩
  · have hk : fdN c l = l.length := by omega
    rw [decide_eq_false h, hk, List.take_of_length_le (Nat.le_refl _), List.drop_of_length_le (by omega)]
    rw [if_neg h] at C1
    go_enter Tryz.func143, Tryz.ntmps143
    go_wp2_with fail
    refine (C1.out).mono ?_; rintro e w1 ⟨rfl, rfl⟩
    go_wp2
    go_ret3
    exact ⟨rfl, Below.refl _ _⟩
/-- A text's length, of a value. -/
def szOf : Value → Nat
  | .string s => s.size
  | _ => 0
/-- Slices of texts. -/
def stv (L : List (List UInt8)) : List Value := L.map fun l => Value.string (bs l)
theorem stv_get {L : List (List UInt8)} {i : Nat} {x : List UInt8} (h : L[i]? = some x) : (stv L)[i]? = some (.string (bs x)) := by simp [stv, h]
theorem Tryz.info_str : (Tryz.prog.info? 9).map (fun i => (i.zero, i.size, i.bytes)) = some (some (.string ⟨#[]⟩), 1, 16) := by kernel_rfl
theorem info_parts_s {P : Program} {t : TypeId} {z : Value} {s b : Nat} (h : (P.info? t).map (fun i => (i.zero, i.size, i.bytes)) = some (some z, s, b)) : ∃ i, P.info? t = some i ∧ i.zero = some z ∧ i.size = s ∧ i.bytes = b := by
  cases hi : P.info? t with
  | none => rw [hi] at h; simp at h
  | some i =>
    rw [hi] at h
    simp at h
    exact ⟨i, rfl, h.1, h.2.1, h.2.2⟩
theorem appStr (w : World) (base : Nat) (A : Option Addr) (n c : Nat) (L : List (List UInt8)) (hl : L.length = n) (hown : Own w base 9 1 A n c (stv L)) (x : List UInt8) (hlen : n ≤ 1000000000) (hbase : base ≤ w.heap.size) :
    ∃ A2 c2 w', (Builtin.append_ #[204, 204] 204 #[.slice A n c, .slice (some ⟨w.heap.size, 0, none⟩) 1 1]).run Tryz.prog (w.alloc (.cells #[.string (bs x)] 9)) = .ok (.slice A2 (n + 1) c2) w' ∧ Own w' base 9 1 A2 (n + 1) c2 (stv (L ++ [x])) ∧ Below base w w' := by
  obtain ⟨i0, hi, hz0, hz1, hz2⟩ := info_parts_s Tryz.info_str
  have hr : Rd (w.alloc (.cells #[.string (bs x)] 9)) (w.heap.size + 1) 1 (some ⟨w.heap.size, 0, none⟩) 1 [.string (bs x)] :=
    ⟨rfl, fun _ => ⟨_, _, rfl, by omega, fun j u hu => by rw [(Whole.new w 9 #[.string (bs x)]).cell, Nat.zero_add, ← Array.getElem?_toList]; exact hu⟩⟩
  obtain ⟨A2, c2, w', q, o, g, nr⟩ := run_append_rdn (P := Tryz.prog) (w.alloc (.cells #[.string (bs x)] 9)) 204 204 base 9 i0 (.string ⟨#[]⟩) 1 16 Tryz.underlying204 hi hz0 hz1 hz2 rfl (by decide) (by decide) A n c (stv L) (hown.alloc _) (w.heap.size + 1) _ 1 1 [.string (bs x)] hr (by intro u hu; simp at hu; rw [hu]; rfl) (by omega) (by simp; omega)
  refine ⟨A2, c2, w', q, ?_, ((Below.refl base w).alloc hbase _).grown g (by simp; omega) (fun g hg => (hown.block_lt g (by rw [ownBlock_bl]; exact hg)).1)⟩
  have e : stv (L ++ [x]) = stv L ++ [.string (bs x)] := by simp [stv]
  rw [e]
  exact o
def SplE (w : World) (L : List (List UInt8)) (e : Ending) (w' : World) : Prop := ∃ A c, e = .returned (.slice A L.length c) ∧ Rd w' w'.heap.size 1 A L.length (stv L) ∧ Below w.heap.size w w'
theorem split_any (l : List UInt8) (c : Nat) (hl : l.length ≤ 1000000) (w : World) : Calls Tryz.prog 160 #[.string (bs l), .int .u8 (c : Int)] w (SplE w (splitL c l)) := by
  have C1 := Lib.hid (fun (r : List UInt8) (h : r.length ≤ 1000000) w => cut_any r c h w)
  generalize hN : w.heap.size = N
  have HN := Lib.hid hN
  go_enter Tryz.func160, Tryz.ntmps160
  go_wp2
  go_loopw [0, 5] (fun x y wr => ∃ (O : List (List UInt8)) (r : List UInt8) (n : Nat) (A : Option Addr) (cp : Nat), x = .string (bs r) ∧ O.length = n ∧ n + r.length ≤ l.length ∧ y = .slice A n cp ∧ Own wr N 9 1 A n cp (stv O) ∧ Below N w wr ∧ splitL c l = O ++ splitL c r) (fun x _ _ => szOf x)
  case atStart => exact ⟨[], l, 0, none, 0, rfl, rfl, by omega, rfl, Own.nil_, Below.refl _ _, rfl⟩
  case round =>
    obtain ⟨O, r, n, A, cp, rfl, hO, hr, rfl, hown, hb, hs⟩ := hrel
    have hNr : N ≤ wr.heap.size := by have := hb.size; omega
    have HI := Lib.hid (And.intro hs hb)
    have hsp := splitL_fd c r
    have HL := Lib.hid (fdN_le c r)
    clear hs hb hN
    go_wp2_with fail
    refine (C1.out r (by omega) _).mono ?_; rintro e w1 ⟨rfl, b1⟩
    obtain ⟨A2, c2, w2, q2, o2, b2⟩ := appStr w1 N A n cp O hO (hown.below b1 (Nat.le_refl _)) (r.take (fdN c r)) (by omega) (Nat.le_trans hNr b1.size)
    have Q2 := Lib.hid q2
    have B2 := Lib.hid ((HI.out.2.trans (below_of_le b1 hNr)).trans b2)
    clear b1 b2
    have O2 := Lib.hid o2
    have hO2 := Lib.hid (show (O ++ [r.take (fdN c r)]).length = n + 1 by simp [hO])
    clear q2 o2 hown
    by_cases hk : fdN c r < r.length
    · rw [if_pos hk] at hsp
      rw [decide_eq_true hk]
      have HS := Lib.hid hsp
      clear hsp
      go_wp2_with (at_builtin; refine wpList_want (by rfl) (fun K hK => wp_append_runs _ _ _ _ _ rfl _ _ rfl rfl _ _ Q2.out (hK _ _ ?_)))
      go_wp2
      go_roundw
      case rel => exact ⟨O ++ [r.take (fdN c r)], r.drop (fdN c r + 1), n + 1, A2, c2, rfl, hO2.out, by simp; omega, rfl, O2.out, B2.out, by rw [HI.out.1, HS.out]; simp⟩
      case measure => simp [szOf, bs_size]; omega
    · rw [if_neg hk] at hsp
      rw [decide_eq_false hk]
      have e : splitL c l = O ++ [r.take (fdN c r)] := by
        rw [HI.out.1, hsp, List.take_of_length_le (by omega)]
      have HS := Lib.hid e
      clear hsp e
      go_wp2_with (at_builtin; refine wpList_want (by rfl) (fun K hK => wp_append_runs _ _ _ _ _ rfl _ _ rfl rfl _ _ Q2.out (hK _ _ ?_)))
      go_wp2
      go_ret
      refine ⟨A2, c2, ?_, ?_, ?_⟩
      · rw [HS.out, hO2.out]; rfl
      · rw [HS.out, hO2.out]; exact O2.out.rd
      · rw [HN.out]; exact B2.out
set_option maxHeartbeats 1000000 in
theorem trim_any (l : List UInt8) (hl : l.length ≤ 1000000) (w : World) : Calls Tryz.prog 142 #[.string (bs l)] w fun e w' => e = .returned (.string (bs (trimL l))) ∧ w = w' := by
  have C1 := Lib.hid (fun c w => blank_any c w)
  go_enter Tryz.func142, Tryz.ntmps142
  go_wp2
  go_loop [0] (fun x => ∃ m : List UInt8, x = .string (bs m) ∧ ltr m = ltr l ∧ m.length ≤ l.length) (fun x => szOf x)
  case atStart => exact ⟨l, rfl, rfl, Nat.le_refl _⟩
  case round =>
    obtain ⟨m, rfl, hm, hml⟩ := hrel
    by_cases hm0 : 0 < m.length
    · have v0 := ne_nil_beq hm0
      have v1 : (0 : Int) < (m.length : Int) := by omega
      have v2 : (1 : Int) ≤ (m.length : Int) := by omega
      cases hb : blN (ax m 0) with
      | true =>
        have HT := Lib.hid (show ltr m.tail = ltr m by rw [← List.drop_one]; exact ltr_drop hm0 hb)
        have HM := Lib.hid hm
        clear hm
        go_wp2_with fail
        refine (C1.out (ax m 0) _).mono ?_; rintro e w1 ⟨rfl, rfl⟩
        go_wp2
        go_round
        case rel => exact ⟨m.tail, rfl, HT.out.trans HM.out, by simp; omega⟩
        case measure => simp [szOf, bs_size]; omega
      | false =>
        have HM := Lib.hid (show rtr m = trimL l by unfold trimL; rw [← hm, ltr_stop hm0 hb])
        clear hm
        go_wp2_with fail
        refine (C1.out (ax m 0) _).mono ?_; rintro e w1 ⟨rfl, rfl⟩
        go_wp2
        go_loop [0] (fun x => ∃ r : List UInt8, x = .string (bs r) ∧ rtr r = rtr m ∧ r.length ≤ m.length) (fun x => szOf x)
        case atStart => exact ⟨m, rfl, rfl, Nat.le_refl _⟩
        case round =>
          obtain ⟨r, rfl, hr, hrl⟩ := hrel
          have HR := Lib.hid (show rtr m = rtr r from hr.symm)
          clear hr
          by_cases hr0 : 0 < r.length
          · have u0 := ne_nil_beq hr0
            have u1 : (0 : Int) ≤ (r.length : Int) - 1 := by omega
            have u2 : (r.length : Int) - 1 < (r.length : Int) := by omega
            have u3 : ((r.length : Int) - 1).toNat = r.length - 1 := by omega
            have u4 : IntKind.i64.wrap ((r.length : Int) - 1) = (r.length : Int) - 1 := IntWalk.i64_in _ (by omega)
            have u5 : (r.length : Int) - 1 ≤ (r.length : Int) := by omega
            cases hb : blN (ax r (r.length - 1)) with
            | true =>
              have HT := Lib.hid (rtr_take hr0 hb)
              go_wp2_with fail
              refine (C1.out (ax r (r.length - 1)) _).mono ?_; rintro e w1 ⟨rfl, rfl⟩
              go_wp2
              go_round
              case rel => exact ⟨r.take (r.length - 1), rfl, HT.out.trans HR.out.symm, by simp; omega⟩
              case measure => simp [szOf, bs_size]; omega
            | false =>
              have HT := Lib.hid (rtr_stop hr0 hb)
              go_wp2_with fail
              refine (C1.out (ax r (r.length - 1)) _).mono ?_; rintro e w1 ⟨rfl, rfl⟩
              go_wp2
              go_ret
              exact ⟨by rw [← HM.out, HR.out, HT.out]; rfl, rfl⟩
          · obtain rfl : r = [] := by cases r with | nil => rfl | cons _ _ => simp at hr0
            go_wp2
            go_ret
            exact ⟨by rw [← HM.out, HR.out]; rfl, rfl⟩
    · obtain rfl : m = [] := by cases m with | nil => rfl | cons _ _ => simp at hm0
      have HM := Lib.hid (show rtr [] = trimL l by unfold trimL; rw [← hm]; rfl)
      generalize hmm : ([] : List UInt8) = m at HM
      clear hm
      subst hmm
      go_wp2
      go_loop [0] (fun x => ∃ r : List UInt8, x = .string (bs r) ∧ rtr r = rtr [] ∧ r.length ≤ ([] : List UInt8).length) (fun x => szOf x)
      case atStart => exact ⟨[], rfl, rfl, Nat.le_refl _⟩
      case round =>
        obtain ⟨r, rfl, hr, hrl⟩ := hrel
        have HR := Lib.hid (show rtr [] = rtr r from hr.symm)
        clear hr
        by_cases hr0 : 0 < r.length
        · have u0 := ne_nil_beq hr0
          have u1 : (0 : Int) ≤ (r.length : Int) - 1 := by omega
          have u2 : (r.length : Int) - 1 < (r.length : Int) := by omega
          have u3 : ((r.length : Int) - 1).toNat = r.length - 1 := by omega
          have u4 : IntKind.i64.wrap ((r.length : Int) - 1) = (r.length : Int) - 1 := IntWalk.i64_in _ (by omega)
          have u5 : (r.length : Int) - 1 ≤ (r.length : Int) := by omega
          cases hb : blN (ax r (r.length - 1)) with
          | true =>
            have HT := Lib.hid (rtr_take hr0 hb)
            go_wp2_with fail
            refine (C1.out (ax r (r.length - 1)) _).mono ?_; rintro e w1 ⟨rfl, rfl⟩
            go_wp2
            go_round
            case rel => exact ⟨r.take (r.length - 1), rfl, HT.out.trans HR.out.symm, by simp; omega⟩
            case measure => simp [szOf, bs_size]; omega
          | false =>
            have HT := Lib.hid (rtr_stop hr0 hb)
            go_wp2_with fail
            refine (C1.out (ax r (r.length - 1)) _).mono ?_; rintro e w1 ⟨rfl, rfl⟩
            go_wp2
            go_ret
            exact ⟨by rw [← HM.out, HR.out, HT.out]; rfl, rfl⟩
        · obtain rfl : r = [] := by cases r with | nil => rfl | cons _ _ => simp at hr0
          go_wp2
          go_ret
          exact ⟨by rw [← HM.out]; rfl, rfl⟩
theorem digits_any (l : List UInt8) (hl : l.length ≤ 1000000) (w : World) : Calls Tryz.prog 176 #[.string (bs l)] w fun e w' => e = .returned (.int .i64 (dgN l : Int)) ∧ w = w' := by
  have C1 := Lib.hid (fun c w => digit_any c w)
  go_enter Tryz.func176, Tryz.ntmps176
  go_wp2
  go_loop [3] (fun i => ∃ j : Nat, j ≤ l.length ∧ i = .int .i64 j ∧ ∀ k, k < j → dgT (ax l k) = true) (fun i => l.length - (intOf i).toNat)
  case atStart => exact ⟨0, by omega, rfl, fun k hk => absurd hk (by omega)⟩
  case round =>
    obtain ⟨j, hj, rfl, hk⟩ := hrel
    by_cases hlt : j < l.length
    · cases hb : dgT (ax l j) with
      | true =>
        go_wp2_with fail
        refine (C1.out (ax l j) _).mono ?_; rintro e w1 ⟨rfl, rfl⟩
        go_wp2
        go_round
        case rel => exact ⟨j + 1, by omega, by go_num, fun k hk' => by
          by_cases hkj : k = j
          · subst hkj; exact hb
          · exact hk k (by omega)⟩
        case measure => simp [intOf]; omega
      | false =>
        have HF := Lib.hid (dgN_hit hj hk (fun _ => hb))
        go_wp2_with fail
        refine (C1.out (ax l j) _).mono ?_; rintro e w1 ⟨rfl, rfl⟩
        go_wp2
        go_ret
        exact ⟨by rw [HF.out]; rfl, rfl⟩
    · have HF := Lib.hid (dgN_hit hj hk (fun h => absurd h hlt))
      go_wp2
      go_ret
      exact ⟨by rw [HF.out]; rfl, rfl⟩
/-- What Number tells: a text of digits' number. -/
def NumE (w : World) (l : List UInt8) (e : Ending) (w' : World) : Prop := ∃ n : Int, ∃ b : Bool, e = .returned (.tuple #[.int .i64 n, .bool b]) ∧ (l ≠ [] → l.all digB = true → n = numL l) ∧ w = w'

theorem ascnum_any (l : List UInt8) (hl : l.length ≤ 1000000) (w : World) : Calls Tryz.prog 175 #[.string (bs l)] w (NumE w l) := by
  have C1 := Lib.hid (fun (m : List UInt8) (h : m.length ≤ 1000000) w => digits_any m h w)
  by_cases h0 : 0 < l.length
  · have v0 := ne_nil_beq h0
    have v1 : (0 : Int) < (l.length : Int) := by omega
    have v2 : (1 : Int) ≤ (l.length : Int) := by omega
    by_cases h45 : ax l 0 = 45
    · have hnd : l.all digB = false := all_at digB_n h0 (by rw [h45]; rfl)
      have HE := Lib.hid (show ∀ (n : Int) (b : Bool), NumE w l (.returned (.tuple #[.int .i64 n, .bool b])) w from fun n b => ⟨n, b, rfl, ⟨fun _ h => (by rw [hnd] at h; cases h), rfl⟩⟩)
      have HL := Lib.hid (show l.tail.length ≤ 1000000 by simp; omega)
      clear hnd
      generalize hm : l.tail = m at *
      have hdl := dgN_le m
      by_cases hm0 : 0 < m.length
      · have u0 := ne_nil_beq hm0
        by_cases hd : dgN m < m.length
        · have u1 : decide ((dgN m : Int) < (m.length : Int)) = true := by simp; omega
          go_enter Tryz.func175, Tryz.ntmps175
          go_wp2_with fail
          refine (C1.out m HL.out _).mono ?_; rintro e w1 ⟨rfl, rfl⟩
          go_wp2
          go_ret2
          exact HE.out _ _
        · have u1 : decide ((dgN m : Int) < (m.length : Int)) = false := by simp; omega
          go_enter Tryz.func175, Tryz.ntmps175
          go_wp2_with fail
          refine (C1.out m HL.out _).mono ?_; rintro e w1 ⟨rfl, rfl⟩
          have hm1 := HL.out
          go_wp2
          go_loop [6, 29] (fun x i => ∃ (j n : Nat), j ≤ m.length ∧ i = .int .i64 j ∧ x = .int .i64 n ∧ n ≤ 1099511627776) (fun _ i => m.length - (intOf i).toNat)
          case atStart => exact ⟨0, 0, by omega, rfl, rfl, by omega⟩
          case round =>
            obtain ⟨j, n, hj, rfl, rfl, hn⟩ := hrel
            by_cases hlt : j < m.length
            · have hax := ax_lt m j
              generalize hc : IntKind.u8.wrap ((ax m j : Int) - 48) = c
              have hcb : 0 ≤ c ∧ c < 256 := by rw [← hc, IntKind.wrap_u8]; omega
              obtain ⟨C, rfl⟩ := Int.eq_ofNat_of_zero_le hcb.1
              have y1 : IntKind.i64.wrap ((n : Int) * 10) = ((n * 10 : Nat) : Int) := by rw [IntWalk.i64_in _ (by omega)]; omega
              have y2 : IntKind.i64.wrap (C : Int) = (C : Int) := IntWalk.i64_in _ (by omega)
              have y3 : IntKind.i64.wrap (((n * 10 : Nat) : Int) + (C : Int)) = ((n * 10 + C : Nat) : Int) := by rw [IntWalk.i64_in _ (by omega)]; omega
              clear hax
              go_wp2
              all_goals (go_round)
              case rel => exact ⟨j + 1, min (n * 10 + C) 1099511627776, by omega, by go_num, by go_num, Nat.min_le_right _ _⟩
              case measure => simp [intOf]; omega
            · go_wp2
              go_ret2
              exact HE.out _ _
      · obtain rfl : m = [] := by cases m with | nil => rfl | cons _ _ => simp at hm0
        go_enter Tryz.func175, Tryz.ntmps175
        go_wp2
        go_ret2
        exact HE.out _ _
    · have hdl := dgN_le l
      have t45 : ((ax l 0 : Int) == 45) = false := by simp; omega
      by_cases hd : dgN l < l.length
      · have u1 : decide ((dgN l : Int) < (l.length : Int)) = true := by simp; omega
        have HE := Lib.hid (show NumE w l (.returned (.tuple #[.int .i64 0, .bool false])) w from ⟨0, false, rfl, ⟨fun _ h => (by rw [all_dgN, decide_eq_true_eq] at h; omega), rfl⟩⟩)
        go_enter Tryz.func175, Tryz.ntmps175
        go_wp2_with fail
        refine (C1.out l hl _).mono ?_; rintro e w1 ⟨rfl, rfl⟩
        go_wp2
        go_ret2
        exact HE.out
      · have u1 : decide ((dgN l : Int) < (l.length : Int)) = false := by simp; omega
        have hall : l.all digB = true := by rw [all_dgN, decide_eq_true_eq]; omega
        have HA := Lib.hid (show ∀ j, j < l.length → 48 ≤ ax l j ∧ ax l j ≤ 57 from fun j hj => by
          have := all_get digB_n hall hj
          unfold dgT at this
          simpa using this)
        have HS := Lib.hid (fun j (hj : j < l.length) => numL_step hj)
        have HE := Lib.hid (show NumE w l (.returned (.tuple #[.int .i64 (numL l : Int), .bool true])) w from ⟨numL l, true, rfl, ⟨fun _ _ => rfl, rfl⟩⟩)
        clear hall
        go_enter Tryz.func175, Tryz.ntmps175
        go_wp2_with fail
        refine (C1.out l hl _).mono ?_; rintro e w1 ⟨rfl, rfl⟩
        go_wp2
        go_loop [6, 29] (fun x i => ∃ (j n : Nat), j ≤ l.length ∧ i = .int .i64 j ∧ x = .int .i64 n ∧ n = numL (l.take j)) (fun _ i => l.length - (intOf i).toNat)
        case atStart => exact ⟨0, 0, by omega, rfl, rfl, by simp [numL_nil]⟩
        case round =>
          obtain ⟨j, n, hj, rfl, rfl, hn⟩ := hrel
          have hnb := numL_le (l.take j)
          rw [← hn] at hnb
          by_cases hlt : j < l.length
          · obtain ⟨a1, a2⟩ := HA.out j hlt
            have hst := Lib.hid (HS.out j hlt)
            obtain ⟨C, hC⟩ : ∃ C : Nat, ax l j = C + 48 := ⟨ax l j - 48, by omega⟩
            have HX := Lib.hid (show min (n * 10 + C) 1099511627776 = numL (l.take (j + 1)) by rw [hst.out, ← hn, hC]; simp)
            have y0 : IntKind.u8.wrap (((C + 48 : Nat) : Int) - 48) = (C : Int) := by rw [IntKind.wrap_u8]; omega
            have y0' : IntKind.u8.wrap ((C : Int) + 48 - 48) = (C : Int) := by rw [IntKind.wrap_u8]; omega
            have y1 : IntKind.i64.wrap ((n : Int) * 10) = ((n * 10 : Nat) : Int) := by rw [IntWalk.i64_in _ (by omega)]; omega
            have y2 : IntKind.i64.wrap (C : Int) = (C : Int) := IntWalk.i64_in _ (by omega)
            have y3 : IntKind.i64.wrap (((n * 10 : Nat) : Int) + (C : Int)) = ((n * 10 + C : Nat) : Int) := by rw [IntWalk.i64_in _ (by omega)]; omega
            have hC9 : C ≤ 9 := by omega
            clear a1 a2 hn hst
            go_wp2
            all_goals (go_round)
            case rel => exact ⟨j + 1, min (n * 10 + C) 1099511627776, by omega, by go_num, by go_num, HX.out⟩
            case measure => simp [intOf]; omega
          · have hj' : j = l.length := by omega
            subst hj'
            rw [List.take_length] at hn
            subst hn
            have y4 : IntKind.i64.wrap (numL l : Int) = (numL l : Int) := IntWalk.i64_in _ (by omega)
            go_wp2
            go_ret2
            exact HE.out
  · obtain rfl : l = [] := by cases l with | nil => rfl | cons _ _ => simp at h0
    go_enter Tryz.func175, Tryz.ntmps175
    go_wp2
    go_ret2
    exact ⟨0, false, rfl, fun h => absurd rfl h, rfl⟩
end Go.Proofs.YtpakmeegldgjmaaGreat
/- The document's layer 6 (ascii): Find, Control, Trim, Digits, Number, Text, Split. -/
namespace Go.Proofs.YtpakmeegldgjmaaGreat
open Go.RowKit
set_option linter.unusedVariables false
set_option maxRecDepth 100000
attribute [local go_sem high] idx_bs cut_bs cut_from cut_to
attribute [local go_sem] bs_size bs_list bs_nil_list bs_get bs_cut

theorem own_es (w : World) (e : TypeId) (size base : Nat) (h : base ≤ w.heap.size) : Own (w.alloc (.cells #[] e)) base e size (some ⟨w.heap.size, 0, none⟩) 0 0 [] :=
  Own.base_le (b' := base) (base := w.heap.size) ⟨World.ownsRow_lit _ #[] 0 (Nat.le_refl _) (by simp [maxLen]) (by simp), Nat.le_refl _, by simp [maxLen]⟩ h
end Go.Proofs.YtpakmeegldgjmaaGreat
/- Layer 8 (host): sign, label, bracket; ascii.Lower; and the document's. -/
namespace Go.Proofs.YtpakmeegldgjmaaGreat
open Go.RowKit
set_option linter.unusedVariables false
set_option linter.unusedSimpArgs false
set_option maxRecDepth 100000
attribute [local go_sem high] idx_bs cut_bs cut_from cut_to
attribute [local go_sem] bs_size bs_list bs_nil_list bs_get bs_cut

set_option maxHeartbeats 2000000 in
theorem sign_any (c : Nat) (e : Bool) (w : World) : Calls Tryz.prog 174 #[.int .u8 (c : Int), .bool e] w fun r w' => r = .returned (.bool (sgE c e)) ∧ w = w' := by
  generalize hv : sgE c e = v
  unfold sgE sgN at hv
  by_cases he45 : c = 45
  · have te45 : ((c : Int) == 45) = true := by rw [beq_iff_eq]; omega
    by_cases hg97 : 97 ≤ c
    · omega
    · have tg97 : decide ((97 : Int) ≤ (c : Int)) = false := decide_eq_false (by omega)
      by_cases hl122 : c ≤ 122
      · have tl122 : decide ((c : Int) ≤ 122) = true := decide_eq_true (by omega)
        by_cases hg48 : 48 ≤ c
        · omega
        · have tg48 : decide ((48 : Int) ≤ (c : Int)) = false := decide_eq_false (by omega)
          by_cases hl57 : c ≤ 57
          · have tl57 : decide ((c : Int) ≤ 57) = true := decide_eq_true (by omega)
            by_cases he95 : c = 95
            · omega
            · have ne95 : (c == 95) = false := by rw [beq_eq_false_iff_ne]; exact he95
              have te95 : ((c : Int) == 95) = false := by rw [beq_eq_false_iff_ne]; omega
              cases e
              · have hv2 : v = _ := hv.symm
                simp [he45, hg97, hl122, hg48, hl57, he95, ne95] at hv2
                subst hv2
                clear hv
                go_enter Tryz.func174, Tryz.ntmps174
                go_wp2
                go_ret
                exact ⟨rfl, rfl⟩
              · have hv2 : v = _ := hv.symm
                simp [he45, hg97, hl122, hg48, hl57, he95, ne95] at hv2
                subst hv2
                clear hv
                go_enter Tryz.func174, Tryz.ntmps174
                go_wp2
                go_ret
                exact ⟨rfl, rfl⟩
          · omega
      · omega
  · have ne45 : (c == 45) = false := by rw [beq_eq_false_iff_ne]; exact he45
    have te45 : ((c : Int) == 45) = false := by rw [beq_eq_false_iff_ne]; omega
    by_cases hg97 : 97 ≤ c
    · have tg97 : decide ((97 : Int) ≤ (c : Int)) = true := decide_eq_true (by omega)
      by_cases hl122 : c ≤ 122
      · have tl122 : decide ((c : Int) ≤ 122) = true := decide_eq_true (by omega)
        by_cases hg48 : 48 ≤ c
        · have tg48 : decide ((48 : Int) ≤ (c : Int)) = true := decide_eq_true (by omega)
          by_cases hl57 : c ≤ 57
          · omega
          · have tl57 : decide ((c : Int) ≤ 57) = false := decide_eq_false (by omega)
            by_cases he95 : c = 95
            · omega
            · have ne95 : (c == 95) = false := by rw [beq_eq_false_iff_ne]; exact he95
              have te95 : ((c : Int) == 95) = false := by rw [beq_eq_false_iff_ne]; omega
              have hv2 : v = _ := hv.symm
              simp [he45, hg97, hl122, hg48, hl57, he95, ne45, ne95] at hv2
              subst hv2
              clear hv
              go_enter Tryz.func174, Tryz.ntmps174
              go_wp2
              go_ret
              exact ⟨rfl, rfl⟩
        · omega
      · have tl122 : decide ((c : Int) ≤ 122) = false := decide_eq_false (by omega)
        by_cases hg48 : 48 ≤ c
        · have tg48 : decide ((48 : Int) ≤ (c : Int)) = true := decide_eq_true (by omega)
          by_cases hl57 : c ≤ 57
          · omega
          · have tl57 : decide ((c : Int) ≤ 57) = false := decide_eq_false (by omega)
            by_cases he95 : c = 95
            · omega
            · have ne95 : (c == 95) = false := by rw [beq_eq_false_iff_ne]; exact he95
              have te95 : ((c : Int) == 95) = false := by rw [beq_eq_false_iff_ne]; omega
              have hv2 : v = _ := hv.symm
              simp [he45, hg97, hl122, hg48, hl57, he95, ne45, ne95] at hv2
              subst hv2
              clear hv
              go_enter Tryz.func174, Tryz.ntmps174
              go_wp2
              go_ret
              exact ⟨rfl, rfl⟩
        · omega
    · have tg97 : decide ((97 : Int) ≤ (c : Int)) = false := decide_eq_false (by omega)
      by_cases hl122 : c ≤ 122
      · have tl122 : decide ((c : Int) ≤ 122) = true := decide_eq_true (by omega)
        by_cases hg48 : 48 ≤ c
        · have tg48 : decide ((48 : Int) ≤ (c : Int)) = true := decide_eq_true (by omega)
          by_cases hl57 : c ≤ 57
          · have tl57 : decide ((c : Int) ≤ 57) = true := decide_eq_true (by omega)
            by_cases he95 : c = 95
            · omega
            · have ne95 : (c == 95) = false := by rw [beq_eq_false_iff_ne]; exact he95
              have te95 : ((c : Int) == 95) = false := by rw [beq_eq_false_iff_ne]; omega
              have hv2 : v = _ := hv.symm
              simp [he45, hg97, hl122, hg48, hl57, he95, ne45, ne95] at hv2
              subst hv2
              clear hv
              go_enter Tryz.func174, Tryz.ntmps174
              go_wp2
              go_ret
              exact ⟨rfl, rfl⟩
          · have tl57 : decide ((c : Int) ≤ 57) = false := decide_eq_false (by omega)
            by_cases he95 : c = 95
            · have te95 : ((c : Int) == 95) = true := by rw [beq_iff_eq]; omega
              have hv2 : v = _ := hv.symm
              simp [he45, hg97, hl122, hg48, hl57, he95, ne45] at hv2
              subst hv2
              clear hv
              go_enter Tryz.func174, Tryz.ntmps174
              go_wp2
              go_ret
              exact ⟨rfl, rfl⟩
            · have ne95 : (c == 95) = false := by rw [beq_eq_false_iff_ne]; exact he95
              have te95 : ((c : Int) == 95) = false := by rw [beq_eq_false_iff_ne]; omega
              have hv2 : v = _ := hv.symm
              simp [he45, hg97, hl122, hg48, hl57, he95, ne45, ne95] at hv2
              subst hv2
              clear hv
              go_enter Tryz.func174, Tryz.ntmps174
              go_wp2
              go_ret
              exact ⟨rfl, rfl⟩
        · have tg48 : decide ((48 : Int) ≤ (c : Int)) = false := decide_eq_false (by omega)
          by_cases hl57 : c ≤ 57
          · have tl57 : decide ((c : Int) ≤ 57) = true := decide_eq_true (by omega)
            by_cases he95 : c = 95
            · omega
            · have ne95 : (c == 95) = false := by rw [beq_eq_false_iff_ne]; exact he95
              have te95 : ((c : Int) == 95) = false := by rw [beq_eq_false_iff_ne]; omega
              have hv2 : v = _ := hv.symm
              simp [he45, hg97, hl122, hg48, hl57, he95, ne45, ne95] at hv2
              subst hv2
              clear hv
              go_enter Tryz.func174, Tryz.ntmps174
              go_wp2
              go_ret
              exact ⟨rfl, rfl⟩
          · omega
      · omega
theorem label_any (l : List UInt8) (hl : l.length ≤ 1000000) (w : World) : Calls Tryz.prog 161 #[.string (bs l)] w fun r w' => r = .returned (.bool (labelB l)) ∧ w = w' := by
  have C1 := Lib.hid (fun c e w => sign_any c e w)
  by_cases h0 : 0 < l.length
  · have v0 := ne_nil_beq h0
    by_cases h63 : l.length ≤ 63
    · have v1 : decide ((63 : Int) < (l.length : Int)) = false := decide_eq_false (by omega)
      go_enter Tryz.func161, Tryz.ntmps161
      go_wp2
      go_loop [13] (fun i => ∃ j : Nat, j ≤ l.length ∧ i = .int .i64 j ∧ ∀ k, k < j → sgE (ax l k) (decide (k = 0) || decide (k = l.length - 1)) = true) (fun i => l.length - (intOf i).toNat)
      case atStart => exact ⟨0, by omega, rfl, fun k hk => absurd hk (by omega)⟩
      case round =>
        obtain ⟨j, hj, rfl, hk⟩ := hrel
        have HK := Lib.hid hk
        clear hk
        by_cases hlt : j < l.length
        · generalize he : (decide (j = 0) || decide (j = l.length - 1)) = e
          have y4 : IntKind.i64.wrap ((l.length : Int) - 1) = (l.length : Int) - 1 := IntWalk.i64_in _ (by omega)
          cases hx : sgE (ax l j) e with
          | true =>
            have HF := Lib.hid (show ∀ k, k < j + 1 → sgE (ax l k) (decide (k = 0) || decide (k = l.length - 1)) = true from fun k hk' => by
              by_cases hkj : k = j
              · subst hkj; rw [he]; exact hx
              · exact HK.out k (by omega))
            have HX := Lib.hid hx
            by_cases hj0 : j = 0
            · have ej : e = true := by rw [← he, decide_eq_true hj0]; rfl
              subst ej
              subst hj0
              clear he hx
              go_wp2_with fail
              refine (C1.out (ax l 0) true _).mono ?_; rintro r w1 ⟨rfl, rfl⟩
              rw [HX.out]
              go_wp2
              go_round
              case rel => exact ⟨1, by omega, by go_num, HF.out⟩
              case measure => simp [intOf]; omega
            · have u1 : ((j : Int) == 0) = false := by rw [beq_eq_false_iff_ne]; omega
              have u2 : ((j : Int) == (l.length : Int) - 1) = e := by
                rw [← he, decide_eq_false hj0, Bool.false_or]
                by_cases h : j = l.length - 1
                · rw [decide_eq_true h, beq_iff_eq]; omega
                · rw [decide_eq_false h, beq_eq_false_iff_ne]; omega
              clear he hx
              go_wp2_with fail
              refine (C1.out (ax l j) e _).mono ?_; rintro r w1 ⟨rfl, rfl⟩
              rw [HX.out]
              go_wp2
              go_round
              case rel => exact ⟨j + 1, by omega, by go_num, HF.out⟩
              case measure => simp [intOf]; omega
          | false =>
            have HF := Lib.hid (label_at hlt (by rw [he]; exact hx))
            have HX := Lib.hid hx
            by_cases hj0 : j = 0
            · have ej : e = true := by rw [← he, decide_eq_true hj0]; rfl
              subst ej
              subst hj0
              clear he hx
              go_wp2_with fail
              refine (C1.out (ax l 0) true _).mono ?_; rintro r w1 ⟨rfl, rfl⟩
              rw [HX.out]
              go_wp2
              go_ret
              exact ⟨by rw [HF.out]; rfl, rfl⟩
            · have u1 : ((j : Int) == 0) = false := by rw [beq_eq_false_iff_ne]; omega
              have u2 : ((j : Int) == (l.length : Int) - 1) = e := by
                rw [← he, decide_eq_false hj0, Bool.false_or]
                by_cases h : j = l.length - 1
                · rw [decide_eq_true h, beq_iff_eq]; omega
                · rw [decide_eq_false h, beq_eq_false_iff_ne]; omega
              clear he hx
              go_wp2_with fail
              refine (C1.out (ax l j) e _).mono ?_; rintro r w1 ⟨rfl, rfl⟩
              rw [HX.out]
              go_wp2
              go_ret
              exact ⟨by rw [HF.out]; rfl, rfl⟩
        · have HF := Lib.hid (label_yes (by omega) h63 (fun k hk' => HK.out k (by omega)))
          go_wp2
          go_ret
          exact ⟨by rw [HF.out]; rfl, rfl⟩
    · have v1 : decide ((63 : Int) < (l.length : Int)) = true := decide_eq_true (by omega)
      have HF := Lib.hid (show labelB l = false by rw [label_ax, decide_eq_false (by omega : ¬ l.length ≤ 63)]; simp)
      go_enter Tryz.func161, Tryz.ntmps161
      go_wp2
      go_ret
      exact ⟨by rw [HF.out]; rfl, rfl⟩
  · obtain rfl : l = [] := by cases l with | nil => rfl | cons _ _ => simp at h0
    go_enter Tryz.func161, Tryz.ntmps161
    go_wp2
    go_ret
    exact ⟨rfl, rfl⟩
end Go.Proofs.YtpakmeegldgjmaaGreat
/- Layer 8 (host): bracket; ascii.Lower; and the document's bracket. -/
namespace Go.Proofs.YtpakmeegldgjmaaGreat
open Go.RowKit
set_option linter.unusedVariables false
set_option linter.unusedSimpArgs false
set_option maxRecDepth 100000
attribute [local go_sem high] idx_bs cut_bs cut_from cut_to
attribute [local go_sem] bs_size bs_list bs_nil_list bs_get bs_cut

/-- '[]byte(s)': the new row, its room, its mark. -/
def capOf (w : World) (m : List UInt8) : Nat := grownCap w m.length 0 5
def rowOf (w : World) (m : List UInt8) : Array Value := bytesRow (bs m) (capOf w m)
theorem str_conv (m : List UInt8) (w : World) : (convert 9 24 (.string (bs m))).run Tryz.prog w = .ok (.slice (some ⟨w.heap.size, 0, none⟩) m.length (capOf w m)) (w.drew.alloc (.cells (rowOf w m) 5 ((rowOf w m).size, (rowOf w m).size + 1))) :=
  run_bytes_of_string w 9 24 5 (bs m) Tryz.underlying9 Tryz.underlying24 Tryz.underlying5
theorem rowOf_at (w : World) (m : List UInt8) (j : Nat) (hj : j < m.length) : (rowOf w m)[j]? = some (.int .u8 (ax m j : Int)) := by
  have h := bytesRow_at (bs m) (capOf w m) j (by simpa [bs] using hj)
  unfold rowOf
  rw [h, ax_el hj]
  simp [bs]
theorem rowOf_size (w : World) (m : List UInt8) : m.length ≤ (rowOf w m).size := by
  unfold rowOf bytesRow
  simp [bs]
/-- A block of bytes, whatever its mark. -/
def Mw (w : World) (g : Nat) (C : Array Value) : Prop := w.heap[g]? = some (.cells C 5 (C.size, C.size + 1))
theorem Mw.new (w : World) (m : List UInt8) : Mw (w.drew.alloc (.cells (rowOf w m) 5 ((rowOf w m).size, (rowOf w m).size + 1))) w.heap.size (rowOf w m) := heap_alloc_new w.drew _
theorem Mw.cell {w : World} {g : Nat} {C : Array Value} (h : Mw w g C) (i : Nat) : w.cell? ⟨g, i, none⟩ = C[i]? := cell_of_row w g i C _ _ h
theorem Mw.free {w : World} {g : Nat} {C : Array Value} (h : Mw w g C) (i : Nat) (hi : i < C.size) : w.frozen? ⟨g, i, none⟩ = false := by
  unfold Mw at h
  simp [World.frozen?, h]
  omega
theorem Mw.set_ {w : World} {g : Nat} {C : Array Value} (h : Mw w g C) (i : Nat) (u : Value) : Mw (w.setCell ⟨g, i, none⟩ u) g (C.setIfInBounds i u) := by
  unfold Mw at h ⊢
  simp [World.setCell, Array.getElem?_modify, h]
theorem Mw.below {w w' : World} {g B : Nat} {C : Array Value} (h : Mw w g C) (hb : Below B w w') (hg : g < B) : Mw w' g C := (hb.block g hg).trans h
/-- The bytes of a text that is being made small. -/
def LowR (l : List UInt8) (j : Nat) (C : Array Value) : Prop := l.length ≤ C.size ∧ ∀ k, k < l.length → C[k]? = some (.int .u8 ((if k < j then lowN (ax l k) else ax l k : Nat) : Int))
theorem LowR.step {l : List UInt8} {j : Nat} {C : Array Value} (h : LowR l j C) (hj : j < l.length) : LowR l (j + 1) (C.setIfInBounds j (.int .u8 (lowN (ax l j) : Int))) := by
  refine ⟨by simp; exact h.1, fun k hk => ?_⟩
  rw [Array.getElem?_setIfInBounds]
  by_cases hkj : j = k
  · subst hkj
    rw [if_pos rfl, if_pos (by have := h.1; omega), if_pos (by omega)]
  · rw [if_neg hkj, h.2 k hk]
    by_cases hlt : k < j
    · rw [if_pos hlt, if_pos (by omega)]
    · rw [if_neg hlt, if_neg (by omega)]
theorem low_any (l : List UInt8) (hl : l.length ≤ 1000000) (w : World) : Calls Tryz.prog 138 #[.string (bs l)] w fun r w' => r = .returned (.string (bs (lowL l))) ∧ Below w.heap.size w w' := by
  have C1 := Lib.hid (fun c hc w => lower_any c hc w)
  have hcv := str_conv l w
  have hM := Mw.new w l
  have hL : LowR l 0 (rowOf w l) := ⟨rowOf_size w l, fun k hk => by rw [if_neg (by omega)]; exact rowOf_at w l k hk⟩
  have hB : Below w.heap.size w (w.drew.alloc (.cells (rowOf w l) 5 ((rowOf w l).size, (rowOf w l).size + 1))) := (Below.refl _ _).drew.alloc (Nat.le_refl _) _
  generalize w.drew.alloc (.cells (rowOf w l) 5 ((rowOf w l).size, (rowOf w l).size + 1)) = W1 at *
  generalize rowOf w l = C0 at *
  generalize capOf w l = cp at *
  generalize hN : w.heap.size = N at *
  have H0 := Lib.hid (And.intro hM (And.intro hL hB))
  clear hM hL hB hN
  go_enter Tryz.func138, Tryz.ntmps138
  go_wp2
  go_loopw [9] (fun i wr => ∃ (j : Nat) (C : Array Value), j ≤ l.length ∧ i = .int .i64 j ∧ Mw wr N C ∧ LowR l j C ∧ Below N w wr) (fun i _ => l.length - (intOf i).toNat)
  case atStart => exact ⟨0, C0, by omega, rfl, H0.out.1, H0.out.2.1, H0.out.2.2⟩
  case round =>
    obtain ⟨j, C, hj, rfl, hM, hL, hB⟩ := hrel
    by_cases hlt : j < l.length
    · have hc : wr.cell? ⟨N, j, none⟩ = some (.int .u8 (ax l j : Int)) := by rw [hM.cell, hL.2 j hlt, if_neg (Nat.lt_irrefl _)]
      have hf : wr.frozen? ⟨N, j, none⟩ = false := hM.free j (by have := hL.1; omega)
      have HX := Lib.hid (And.intro (hM.set_ j (.int .u8 (lowN (ax l j) : Int))) (And.intro (hL.step hlt) (show Below N w (wr.setCell ⟨N, j, none⟩ (.int .u8 (lowN (ax l j) : Int))) from hB.setCell (Nat.le_refl _) _)))
      clear hM hL hB H0
      go_wp2_with fail
      refine (C1.out (ax l j) (ax_lt l j) _).mono ?_; rintro r w1 ⟨rfl, rfl⟩
      go_wp2
      go_roundw
      case rel => exact ⟨j + 1, _, by omega, by go_num, HX.out.1, HX.out.2.1, HX.out.2.2⟩
      case measure => simp [intOf]; omega
    · have hj' : j = l.length := by omega
      subst hj'
      have hcv2 : (convert 24 9 (.slice (some ⟨N, 0, none⟩) l.length cp)).run Tryz.prog wr = .ok (.string (bs (lowL l))) wr := by
        have h := run_convert_bytes_back (P := Tryz.prog) wr 24 9 5 ⟨N, 0, none⟩ cp (lowL l) Tryz.underlying24 Tryz.underlying5 Tryz.underlying9 (fun k hk => by
          rw [lowL_len] at hk
          have e0 : (⟨N, 0, none⟩ : Addr).add k = ⟨N, k, none⟩ := by by_cases h : k = 0 <;> simp [Addr.add, h]
          rw [e0, hM.cell, hL.2 k hk, if_pos hk, ← lowN_ax l k hk, ax_el])
        rw [lowL_len] at h
        exact h
      have HX := Lib.hid hB
      clear hM hL hB H0
      go_wp2
      go_ret
      exact ⟨rfl, HX.out⟩
set_option maxHeartbeats 2000000 in
theorem bracket_any (l : List UInt8) (hl : l.length ≤ 1000000) (w : World) : Calls Tryz.prog 163 #[.string (bs l)] w fun r w' => r = .returned (.bool (brackB l)) ∧ Below w.heap.size w w' := by
  have HL := Lib.hid (brack_ax l)
  by_cases h4 : 4 ≤ l.length
  · have v0 : decide ((l.length : Int) < 4) = false := decide_eq_false (by omega)
    have v0' : (0 : Int) < (l.length : Int) := by omega
    have y4 : IntKind.i64.wrap ((l.length : Int) - 1) = (l.length : Int) - 1 := IntWalk.i64_in _ (by omega)
    by_cases h47 : l.length ≤ 47
    · have v1 : decide ((47 : Int) < (l.length : Int)) = false := decide_eq_false (by omega)
      by_cases ha : ax l 0 = 91
      · by_cases hb : ax l (l.length - 1) = 93
        · have HG := Lib.hid (show brackB l = ((l.drop 1).take (l.length - 2)).all hexB by rw [HL.out, decide_eq_true h4, decide_eq_true h47, ha, hb]; simp)
          have e1 : l.tail = l.drop 1 := by simp
          have z1 : (1 : Int) ≤ (l.length : Int) - 1 := by omega
          have z2 : (l.length : Int) - 1 ≤ (l.length : Int) := by omega
          have z3 : l.length - 1 - 1 = l.length - 2 := by omega
          clear HL
          generalize hm : (l.drop 1).take (l.length - 2) = m at *
          have hm2 : l.tail.take (l.length - 2) = m := by rw [e1]; exact hm
          clear e1
          have hcv := str_conv m w
          have hM := Mw.new w m
          have hR := fun k (hk : k < m.length) => rowOf_at w m k hk
          have hB : Below w.heap.size w (w.drew.alloc (.cells (rowOf w m) 5 ((rowOf w m).size, (rowOf w m).size + 1))) := (Below.refl _ _).drew.alloc (Nat.le_refl _) _
          generalize w.drew.alloc (.cells (rowOf w m) 5 ((rowOf w m).size, (rowOf w m).size + 1)) = W1 at *
          have hcell : ∀ k, k < m.length → W1.cell? ⟨w.heap.size, k, none⟩ = some (.int .u8 (ax m k : Int)) := fun k hk => by rw [hM.cell]; exact hR k hk
          have HB := Lib.hid (And.intro hB hcell)
          have hmb : m.length ≤ 47 := by rw [← hm]; simp; omega
          clear hM hR hB hcell
          generalize capOf w m = cp at *
          generalize w.heap.size = N at *
          go_enter Tryz.func163, Tryz.ntmps163
          go_wp2
          go_loop [33] (fun i => ∃ j : Nat, j ≤ m.length ∧ i = .int .i64 j ∧ ∀ k, k < j → hxN (ax m k) = true) (fun i => m.length - (intOf i).toNat)
          case atStart => exact ⟨0, by omega, rfl, fun k hk => absurd hk (by omega)⟩
          case round =>
            obtain ⟨j, hj, rfl, hk⟩ := hrel
            have HK := Lib.hid hk
            clear hk hm2 z3
            by_cases hlt : j < m.length
            · have hc := HB.out.2 j hlt
              by_cases hg48 : 48 ≤ ax m j
              · have tg48 : decide ((48 : Int) ≤ (ax m j : Int)) = true := decide_eq_true (by omega)
                by_cases hl57 : ax m j ≤ 57
                · have tl57 : decide ((ax m j : Int) ≤ 57) = true := decide_eq_true (by omega)
                  by_cases hg97 : 97 ≤ ax m j
                  · omega
                  · have tg97 : decide ((97 : Int) ≤ (ax m j : Int)) = false := decide_eq_false (by omega)
                    by_cases hl102 : ax m j ≤ 102
                    · have tl102 : decide ((ax m j : Int) ≤ 102) = true := decide_eq_true (by omega)
                      by_cases he58 : ax m j = 58
                      · omega
                      · have ne58 : (ax m j == 58) = false := by rw [beq_eq_false_iff_ne]; exact he58
                        have te58 : ((ax m j : Int) == 58) = false := by rw [beq_eq_false_iff_ne]; omega
                        by_cases he46 : ax m j = 46
                        · omega
                        · have ne46 : (ax m j == 46) = false := by rw [beq_eq_false_iff_ne]; exact he46
                          have te46 : ((ax m j : Int) == 46) = false := by rw [beq_eq_false_iff_ne]; omega
                          have hq : hxN (ax m j) = true := by unfold hxN; simp [hg48, hl57, hg97, hl102, he58, he46, ne58, ne46]
                          have HF := Lib.hid (show ∀ k, k < j + 1 → hxN (ax m k) = true from fun k hk' => by
                            by_cases hkj : k = j
                            · subst hkj; exact hq
                            · exact HK.out k (by omega))
                          clear hq
                          go_wp2
                          go_round
                          case rel => exact ⟨j + 1, by omega, by go_num, HF.out⟩
                          case measure => simp [intOf]; omega
                    · omega
                · have tl57 : decide ((ax m j : Int) ≤ 57) = false := decide_eq_false (by omega)
                  by_cases hg97 : 97 ≤ ax m j
                  · have tg97 : decide ((97 : Int) ≤ (ax m j : Int)) = true := decide_eq_true (by omega)
                    by_cases hl102 : ax m j ≤ 102
                    · have tl102 : decide ((ax m j : Int) ≤ 102) = true := decide_eq_true (by omega)
                      by_cases he58 : ax m j = 58
                      · omega
                      · have ne58 : (ax m j == 58) = false := by rw [beq_eq_false_iff_ne]; exact he58
                        have te58 : ((ax m j : Int) == 58) = false := by rw [beq_eq_false_iff_ne]; omega
                        by_cases he46 : ax m j = 46
                        · omega
                        · have ne46 : (ax m j == 46) = false := by rw [beq_eq_false_iff_ne]; exact he46
                          have te46 : ((ax m j : Int) == 46) = false := by rw [beq_eq_false_iff_ne]; omega
                          have hq : hxN (ax m j) = true := by unfold hxN; simp [hg48, hl57, hg97, hl102, he58, he46, ne58, ne46]
                          have HF := Lib.hid (show ∀ k, k < j + 1 → hxN (ax m k) = true from fun k hk' => by
                            by_cases hkj : k = j
                            · subst hkj; exact hq
                            · exact HK.out k (by omega))
                          clear hq
                          go_wp2
                          go_round
                          case rel => exact ⟨j + 1, by omega, by go_num, HF.out⟩
                          case measure => simp [intOf]; omega
                    · have tl102 : decide ((ax m j : Int) ≤ 102) = false := decide_eq_false (by omega)
                      by_cases he58 : ax m j = 58
                      · omega
                      · have ne58 : (ax m j == 58) = false := by rw [beq_eq_false_iff_ne]; exact he58
                        have te58 : ((ax m j : Int) == 58) = false := by rw [beq_eq_false_iff_ne]; omega
                        by_cases he46 : ax m j = 46
                        · omega
                        · have ne46 : (ax m j == 46) = false := by rw [beq_eq_false_iff_ne]; exact he46
                          have te46 : ((ax m j : Int) == 46) = false := by rw [beq_eq_false_iff_ne]; omega
                          have hq : hxN (ax m j) = false := by unfold hxN; simp [hg48, hl57, hg97, hl102, he58, he46, ne58, ne46]
                          have HF := Lib.hid (show brackB l = false by rw [HG.out]; exact all_at hexB_n hlt hq)
                          clear hq
                          go_wp2
                          go_ret
                          exact ⟨by rw [HF.out]; rfl, HB.out.1⟩
                  · have tg97 : decide ((97 : Int) ≤ (ax m j : Int)) = false := decide_eq_false (by omega)
                    by_cases hl102 : ax m j ≤ 102
                    · have tl102 : decide ((ax m j : Int) ≤ 102) = true := decide_eq_true (by omega)
                      by_cases he58 : ax m j = 58
                      · have te58 : ((ax m j : Int) == 58) = true := by rw [beq_iff_eq]; omega
                        by_cases he46 : ax m j = 46
                        · omega
                        · have ne46 : (ax m j == 46) = false := by rw [beq_eq_false_iff_ne]; exact he46
                          have te46 : ((ax m j : Int) == 46) = false := by rw [beq_eq_false_iff_ne]; omega
                          have hq : hxN (ax m j) = true := by unfold hxN; simp [hg48, hl57, hg97, hl102, he58, he46, ne46]
                          have HF := Lib.hid (show ∀ k, k < j + 1 → hxN (ax m k) = true from fun k hk' => by
                            by_cases hkj : k = j
                            · subst hkj; exact hq
                            · exact HK.out k (by omega))
                          clear hq
                          go_wp2
                          go_round
                          case rel => exact ⟨j + 1, by omega, by go_num, HF.out⟩
                          case measure => simp [intOf]; omega
                      · have ne58 : (ax m j == 58) = false := by rw [beq_eq_false_iff_ne]; exact he58
                        have te58 : ((ax m j : Int) == 58) = false := by rw [beq_eq_false_iff_ne]; omega
                        by_cases he46 : ax m j = 46
                        · omega
                        · have ne46 : (ax m j == 46) = false := by rw [beq_eq_false_iff_ne]; exact he46
                          have te46 : ((ax m j : Int) == 46) = false := by rw [beq_eq_false_iff_ne]; omega
                          have hq : hxN (ax m j) = false := by unfold hxN; simp [hg48, hl57, hg97, hl102, he58, he46, ne58, ne46]
                          have HF := Lib.hid (show brackB l = false by rw [HG.out]; exact all_at hexB_n hlt hq)
                          clear hq
                          go_wp2
                          go_ret
                          exact ⟨by rw [HF.out]; rfl, HB.out.1⟩
                    · omega
              · have tg48 : decide ((48 : Int) ≤ (ax m j : Int)) = false := decide_eq_false (by omega)
                by_cases hl57 : ax m j ≤ 57
                · have tl57 : decide ((ax m j : Int) ≤ 57) = true := decide_eq_true (by omega)
                  by_cases hg97 : 97 ≤ ax m j
                  · omega
                  · have tg97 : decide ((97 : Int) ≤ (ax m j : Int)) = false := decide_eq_false (by omega)
                    by_cases hl102 : ax m j ≤ 102
                    · have tl102 : decide ((ax m j : Int) ≤ 102) = true := decide_eq_true (by omega)
                      by_cases he58 : ax m j = 58
                      · omega
                      · have ne58 : (ax m j == 58) = false := by rw [beq_eq_false_iff_ne]; exact he58
                        have te58 : ((ax m j : Int) == 58) = false := by rw [beq_eq_false_iff_ne]; omega
                        by_cases he46 : ax m j = 46
                        · have te46 : ((ax m j : Int) == 46) = true := by rw [beq_iff_eq]; omega
                          have hq : hxN (ax m j) = true := by unfold hxN; simp [hg48, hl57, hg97, hl102, he58, he46, ne58]
                          have HF := Lib.hid (show ∀ k, k < j + 1 → hxN (ax m k) = true from fun k hk' => by
                            by_cases hkj : k = j
                            · subst hkj; exact hq
                            · exact HK.out k (by omega))
                          clear hq
                          go_wp2
                          go_round
                          case rel => exact ⟨j + 1, by omega, by go_num, HF.out⟩
                          case measure => simp [intOf]; omega
                        · have ne46 : (ax m j == 46) = false := by rw [beq_eq_false_iff_ne]; exact he46
                          have te46 : ((ax m j : Int) == 46) = false := by rw [beq_eq_false_iff_ne]; omega
                          have hq : hxN (ax m j) = false := by unfold hxN; simp [hg48, hl57, hg97, hl102, he58, he46, ne58, ne46]
                          have HF := Lib.hid (show brackB l = false by rw [HG.out]; exact all_at hexB_n hlt hq)
                          clear hq
                          go_wp2
                          go_ret
                          exact ⟨by rw [HF.out]; rfl, HB.out.1⟩
                    · omega
                · omega
            · have HF := Lib.hid (show brackB l = true by rw [HG.out]; exact all_yes hexB_n (fun k hk' => HK.out k (by omega)))
              go_wp2
              go_ret
              exact ⟨by rw [HF.out]; rfl, HB.out.1⟩
        · have v3 : ((ax l (l.length - 1) : Int) != 93) = true := by rw [bne_iff_ne]; omega
          have HF := Lib.hid (show brackB l = false by
            have e : (ax l (l.length - 1) == 93) = false := by rw [beq_eq_false_iff_ne]; exact hb
            rw [HL.out, e]; simp)
          go_enter Tryz.func163, Tryz.ntmps163
          go_wp2
          go_ret
          exact ⟨by rw [HF.out]; rfl, Below.refl _ _⟩
      · have v3 : ((ax l 0 : Int) != 91) = true := by rw [bne_iff_ne]; omega
        have HF := Lib.hid (show brackB l = false by
          have e : (ax l 0 == 91) = false := by rw [beq_eq_false_iff_ne]; exact ha
          rw [HL.out, e]; simp)
        go_enter Tryz.func163, Tryz.ntmps163
        go_wp2
        go_ret
        exact ⟨by rw [HF.out]; rfl, Below.refl _ _⟩
    · have v1 : decide ((47 : Int) < (l.length : Int)) = true := decide_eq_true (by omega)
      have HF := Lib.hid (show brackB l = false by rw [HL.out, decide_eq_false h47]; simp)
      go_enter Tryz.func163, Tryz.ntmps163
      go_wp2
      go_ret
      exact ⟨by rw [HF.out]; rfl, Below.refl _ _⟩
  · have v0 : decide ((l.length : Int) < 4) = true := decide_eq_true (by omega)
    have HF := Lib.hid (show brackB l = false by rw [HL.out, decide_eq_false h4]; simp)
    go_enter Tryz.func163, Tryz.ntmps163
    go_wp2
    go_ret
    exact ⟨by rw [HF.out]; rfl, Below.refl _ _⟩
end Go.Proofs.YtpakmeegldgjmaaGreat
/- Layer 8 (host): four, Address, name, Canon; and the document's. -/
namespace Go.Proofs.YtpakmeegldgjmaaGreat
open Go.RowKit
set_option linter.unusedVariables false
set_option maxRecDepth 100000
attribute [local go_sem ↓] Go.wp_at_zero Go.wp_at_succ
attribute [local go_sem high] idx_bs cut_bs cut_from cut_to
attribute [local go_sem] bs_size bs_list bs_nil_list bs_get bs_cut

/-- The number of an address, by parts. -/
theorem oct_no {p : List UInt8} (h : dgN p < p.length) : octB p = false := by
  unfold octB
  rw [all_dgN, decide_eq_false (by omega : ¬ dgN p = p.length)]
  simp
theorem oct_big {p : List UInt8} (h : 255 < numL p) : octB p = false := by
  unfold octB
  rw [decide_eq_false (by omega : ¬ numL p ≤ 255)]
  simp
theorem oct_ax {p : List UInt8} (h0 : 0 < p.length) (hd : dgN p = p.length) (hn : numL p ≤ 255) : octB p = !(decide (1 < p.length) && (ax p 0 == 48)) := by
  unfold octB
  rw [all_dgN, decide_eq_true hd, decide_eq_true hn, head_ax (q := fun n => n == 48) (fun x => rfl) h0]
  have : p ≠ [] := by intro e; rw [e] at h0; simp at h0
  rw [decide_eq_true this]
  simp
theorem four_at {l p : List UInt8} {j : Nat} (h : (splitL 46 l)[j]? = some p) (ho : octB p = false) : fourB l = false := by
  unfold fourB
  have : (splitL 46 l).all octB = false := by
    rw [List.all_eq_false]
    exact ⟨p, List.mem_of_getElem? h, by rw [ho]; simp⟩
  rw [this, Bool.and_false]
theorem all_take_step {L : List (List UInt8)} {j : Nat} {p : List UInt8} {f : List UInt8 → Bool} (h : (L.take j).all f = true) (hp : L[j]? = some p) (ho : f p = true) : (L.take (j + 1)).all f = true := by
  rw [List.take_add_one, hp, List.all_append, h]
  simp [ho]
set_option maxHeartbeats 2000000 in
theorem four_any (l : List UInt8) (hl : l.length ≤ 1000000) (w : World) : Calls Tryz.prog 162 #[.string (bs l)] w fun r w' => r = .returned (.bool (fourB l)) ∧ Below w.heap.size w w' := by
  have CS := Lib.hid (split_any l 46 hl w)
  rw [show ((46 : Nat) : Int) = 46 from rfl] at CS
  have CN := Lib.hid (fun (p : List UInt8) (hp : p.length ≤ 1000000) w => ascnum_any p hp w)
  have CD := Lib.hid (fun (p : List UInt8) (hp : p.length ≤ 1000000) w => digits_any p hp w)
  have HE := Lib.hid (fun p (hp : p ∈ splitL 46 l) => splitL_el 46 l p hp)
  have HA := Lib.hid (fun (j : Nat) (p : List UInt8) (h : (splitL 46 l)[j]? = some p) (ho : octB p = false) => four_at h ho)
  have HF := Lib.hid (show fourB l = (decide ((splitL 46 l).length = 4) && (splitL 46 l).all octB) from rfl)
  generalize splitL 46 l = L at *
  by_cases h4 : L.length = 4
  · go_enter Tryz.func162, Tryz.ntmps162
    go_wp2_with fail
    refine (CS.out).mono ?_; rintro e w1 ⟨A1, c1, rfl, hr, b1⟩
    rw [h4] at hr ⊢
    have HR := Lib.hid (And.intro hr b1)
    clear hr b1
    go_wp2
    go_loop [15] (fun i => ∃ j : Nat, j ≤ 4 ∧ i = .int .i64 j ∧ (L.take j).all octB = true) (fun i => 4 - (intOf i).toNat)
    case atStart => exact ⟨0, by omega, rfl, by simp⟩
    case round =>
      obtain ⟨j, hj, rfl, hk⟩ := hrel
      have HK := Lib.hid hk
      clear hk
      by_cases hlt : j < 4
      · have t1 : decide ((j : Int) < 4) = true := decide_eq_true (by omega)
        obtain ⟨b, o, u, rfl, hb, hu, hc⟩ := HR.out.1.at_ hlt
        obtain ⟨p, hp⟩ : ∃ p, L[j]? = some p := ⟨L[j]'(by omega), List.getElem?_eq_getElem _⟩
        rw [stv_get hp] at hu
        injection hu with hu
        subst hu
        have hpl : p.length ≤ 1000000 := Nat.le_trans (HE.out p (List.mem_of_getElem? hp)) hl
        have HP := Lib.hid hp
        clear hp
        go_wp2_with fail
        refine (CN.out p hpl _).mono ?_; rintro e w2 ⟨n, b2, rfl, hn, rfl⟩
        have HN := Lib.hid hn
        clear hn
        by_cases h0 : 0 < p.length
        · have v0 := ne_nil_beq h0
          have hpn : p ≠ [] := by intro e; rw [e] at h0; simp at h0
          have hdl := dgN_le p
          by_cases hd : dgN p < p.length
          · have t2 : decide ((dgN p : Int) < (p.length : Int)) = true := decide_eq_true (by omega)
            have t2n : decide (dgN p < p.length) = true := decide_eq_true hd
            have HX := Lib.hid (HA.out j p HP.out (oct_no hd))
            clear hpn
            go_wp2_with fail
            refine (CD.out p hpl _).mono ?_; rintro e w2 ⟨rfl, rfl⟩
            go_wp2
            go_ret
            exact ⟨by rw [HX.out]; rfl, HR.out.2⟩
          · have t2 : decide ((dgN p : Int) < (p.length : Int)) = false := decide_eq_false (by omega)
            have t2n : decide (dgN p < p.length) = false := decide_eq_false hd
            have hd' : dgN p = p.length := by omega
            obtain rfl := HN.out hpn (by rw [all_dgN, decide_eq_true hd'])
            clear hpn
            by_cases hb' : 255 < numL p
            · have t3 : decide ((255 : Int) < (numL p : Int)) = true := decide_eq_true (by omega)
              have t3' : decide (255 < numL p) = true := decide_eq_true hb'
              have HX := Lib.hid (HA.out j p HP.out (oct_big hb'))
              clear hd' hd
              go_wp2_with fail
              refine (CD.out p hpl _).mono ?_; rintro e w2 ⟨rfl, rfl⟩
              go_wp2
              go_ret
              exact ⟨by rw [HX.out]; rfl, HR.out.2⟩
            · have t3 : decide ((255 : Int) < (numL p : Int)) = false := decide_eq_false (by omega)
              have t3' : decide (255 < numL p) = false := decide_eq_false hb'
              have HO := Lib.hid (oct_ax h0 hd' (by omega))
              clear hd' hd
              by_cases h1 : 1 < p.length
              · have t4 : decide ((1 : Int) < (p.length : Int)) = true := decide_eq_true (by omega)
                have u0 : (0 : Int) < (p.length : Int) := by omega
                by_cases h48 : ax p 0 = 48
                · have HX := Lib.hid (HA.out j p HP.out (by rw [HO.out, decide_eq_true h1, h48]; rfl))
                  go_wp2_with fail
                  refine (CD.out p hpl _).mono ?_; rintro e w2 ⟨rfl, rfl⟩
                  go_wp2
                  go_ret
                  exact ⟨by rw [HX.out]; rfl, HR.out.2⟩
                · have t5 : ((ax p 0 : Int) == 48) = false := by rw [beq_eq_false_iff_ne]; omega
                  have HX := Lib.hid (all_take_step HK.out HP.out (by rw [HO.out, show (ax p 0 == 48) = false by rw [beq_eq_false_iff_ne]; exact h48]; simp))
                  go_wp2_with fail
                  refine (CD.out p hpl _).mono ?_; rintro e w2 ⟨rfl, rfl⟩
                  go_wp2
                  go_round
                  case rel => exact ⟨j + 1, by omega, by go_num, HX.out⟩
                  case measure => simp [intOf]; omega
              · have t4 : decide ((1 : Int) < (p.length : Int)) = false := decide_eq_false (by omega)
                have HX := Lib.hid (all_take_step HK.out HP.out (by rw [HO.out, decide_eq_false h1]; simp))
                go_wp2_with fail
                refine (CD.out p hpl _).mono ?_; rintro e w2 ⟨rfl, rfl⟩
                go_wp2
                go_round
                case rel => exact ⟨j + 1, by omega, by go_num, HX.out⟩
                case measure => simp [intOf]; omega
        · obtain rfl : p = [] := by cases p with | nil => rfl | cons _ _ => simp at h0
          have HX := Lib.hid (HA.out j [] HP.out rfl)
          go_wp2
          go_ret
          exact ⟨by rw [HX.out]; rfl, HR.out.2⟩
      · have t1 : decide ((j : Int) < 4) = false := decide_eq_false (by omega)
        have HX := Lib.hid (show fourB l = true by
          have := HK.out
          rw [List.take_of_length_le (by omega)] at this
          rw [HF.out, decide_eq_true h4, this]; rfl)
        go_wp2
        go_ret
        exact ⟨by rw [HX.out]; rfl, HR.out.2⟩
  · have t1 : ((L.length : Int) != 4) = true := by rw [bne_iff_ne]; omega
    have HX := Lib.hid (show fourB l = false by rw [HF.out, decide_eq_false h4]; rfl)
    go_enter Tryz.func162, Tryz.ntmps162
    go_wp2_with fail
    refine (CS.out).mono ?_; rintro e w1 ⟨A1, c1, rfl, hr, b1⟩
    go_wp2
    go_ret
    exact ⟨by rw [HX.out]; rfl, b1⟩
end Go.Proofs.YtpakmeegldgjmaaGreat
/- Layer 8 (host): Address, name, Canon; and the document's Address, Name, Canonical. -/
namespace Go.Proofs.YtpakmeegldgjmaaGreat
open Go.RowKit
set_option linter.unusedVariables false
set_option maxRecDepth 100000
attribute [local go_sem high] idx_bs cut_bs cut_from cut_to
attribute [local go_sem] bs_size bs_list bs_nil_list bs_get bs_cut

theorem addr_any (l : List UInt8) (hl : l.length ≤ 1000000) (w : World) : Calls Tryz.prog 140 #[.string (bs l)] w fun r w' => r = .returned (.bool (addrB l)) ∧ Below w.heap.size w w' := by
  have CF := Lib.hid (four_any l hl w)
  have CB := Lib.hid (fun w => bracket_any l hl w)
  have HX := Lib.hid (show addrB l = (fourB l || brackB l) from rfl)
  cases hf : fourB l with
  | true =>
    rw [hf] at CF HX
    go_enter Tryz.func140, Tryz.ntmps140
    go_wp2_with fail
    refine (CF.out).mono ?_; rintro e w1 ⟨rfl, b1⟩
    go_wp2
    go_ret
    exact ⟨by rw [HX.out]; rfl, b1⟩
  | false =>
    rw [hf] at CF HX
    go_enter Tryz.func140, Tryz.ntmps140
    go_wp2_with fail
    refine (CF.out).mono ?_; rintro e w1 ⟨rfl, b1⟩
    go_wp2_with fail
    refine (CB.out _).mono ?_; rintro e w2 ⟨rfl, b2⟩
    go_wp2
    go_ret
    exact ⟨by rw [HX.out]; rfl, b1.trans (below_of_le b2 b1.size)⟩
theorem split46 (l : List UInt8) (hl : l.length ≤ 1000000) (w : World) : Calls Tryz.prog 160 #[.string (bs l), .int .u8 46] w (SplE w (splitL 46 l)) := split_any l 46 hl w
theorem labs_at {l p : List UInt8} {j : Nat} (h : (splitL 46 l)[j]? = some p) (ho : labelB p = false) : labsB l = false := by
  unfold labsB
  rw [List.all_eq_false]
  exact ⟨p, List.mem_of_getElem? h, by rw [ho]; simp⟩
set_option maxHeartbeats 1000000 in
theorem name_any (l : List UInt8) (hl : l.length ≤ 1000000) (w : World) : Calls Tryz.prog 139 #[.string (bs l)] w fun r w' => r = .returned (.bool (nameB l)) ∧ Below w.heap.size w w' := by
  have CA := Lib.hid (addr_any l hl w)
  have CS := Lib.hid (fun w => split46 l hl w)
  have CL := Lib.hid (fun (p : List UInt8) (hp : p.length ≤ 1000000) w => label_any p hp w)
  have HE := Lib.hid (fun p (hp : p ∈ splitL 46 l) => splitL_el 46 l p hp)
  have HA := Lib.hid (fun (j : Nat) (p : List UInt8) (h : (splitL 46 l)[j]? = some p) (ho : labelB p = false) => labs_at h ho)
  have HF := Lib.hid (show labsB l = (splitL 46 l).all labelB from rfl)
  have hsl := Nat.le_trans (splitL_len 46 l) (Nat.succ_le_succ hl)
  have HV := Lib.hid (show nameB l = (decide (l.length ≤ 256) && !addrB l && labsB l) from rfl)
  generalize splitL 46 l = L at *
  by_cases h256 : l.length ≤ 256
  · have t1 : decide ((256 : Int) < (l.length : Int)) = false := decide_eq_false (by omega)
    have t1n : decide (256 < l.length) = false := decide_eq_false (by omega)
    cases ha : addrB l with
    | true =>
      rw [ha] at CA
      have HX := Lib.hid (show nameB l = false by rw [HV.out, ha]; simp)
      go_enter Tryz.func139, Tryz.ntmps139
      go_wp2_with fail
      refine (CA.out).mono ?_; rintro e w1 ⟨rfl, b1⟩
      go_wp2
      go_ret
      exact ⟨by rw [HX.out]; rfl, b1⟩
    | false =>
      rw [ha] at CA
      have HY := Lib.hid (show nameB l = labsB l by rw [HV.out, ha, decide_eq_true h256]; simp)
      go_enter Tryz.func139, Tryz.ntmps139
      go_wp2_with fail
      refine (CA.out).mono ?_; rintro e w1 ⟨rfl, b1⟩
      have B1 := Lib.hid b1
      clear b1
      go_wp2_with fail
      refine (CS.out _).mono ?_; rintro e w2 ⟨A1, c1, rfl, hr, b2⟩
      have HR := Lib.hid (And.intro hr (B1.out.trans (below_of_le b2 B1.out.size)))
      clear hr b2
      go_wp2
      go_loop [15] (fun i => ∃ j : Nat, j ≤ L.length ∧ i = .int .i64 j ∧ (L.take j).all labelB = true) (fun i => L.length - (intOf i).toNat)
      case atStart => exact ⟨0, by omega, rfl, by simp⟩
      case round =>
        obtain ⟨j, hj, rfl, hk⟩ := hrel
        have HK := Lib.hid hk
        clear hk
        by_cases hlt : j < L.length
        · obtain ⟨b, o, u, rfl, hb, hu, hc⟩ := HR.out.1.at_ hlt
          obtain ⟨p, hp⟩ : ∃ p, L[j]? = some p := ⟨L[j]'hlt, List.getElem?_eq_getElem _⟩
          rw [stv_get hp] at hu
          injection hu with hu
          subst hu
          have hpl : p.length ≤ 1000000 := Nat.le_trans (HE.out p (List.mem_of_getElem? hp)) hl
          have HP := Lib.hid hp
          clear hp
          have CLp := Lib.hid (CL.out p hpl)
          cases hx : labelB p with
          | true =>
            rw [hx] at CLp
            have HX := Lib.hid (all_take_step HK.out HP.out hx)
            go_wp2_with fail
            refine (CLp.out _).mono ?_; rintro e w3 ⟨rfl, rfl⟩
            go_wp2
            go_round
            case rel => exact ⟨j + 1, by omega, by go_num, HX.out⟩
            case measure => simp [intOf]; omega
          | false =>
            rw [hx] at CLp
            have HX := Lib.hid (HA.out j p HP.out hx)
            go_wp2_with fail
            refine (CLp.out _).mono ?_; rintro e w3 ⟨rfl, rfl⟩
            go_wp2
            go_ret
            exact ⟨by rw [HY.out, HX.out]; rfl, HR.out.2⟩
        · have HX := Lib.hid (show labsB l = true by
            have := HK.out
            rw [List.take_of_length_le (by omega)] at this
            rw [HF.out, this])
          go_wp2
          go_ret
          exact ⟨by rw [HY.out, HX.out]; rfl, HR.out.2⟩
  · have t1 : decide ((256 : Int) < (l.length : Int)) = true := decide_eq_true (by omega)
    have t1n : decide (256 < l.length) = true := decide_eq_true (by omega)
    have HX := Lib.hid (show nameB l = false by rw [HV.out, decide_eq_false h256]; rfl)
    go_enter Tryz.func139, Tryz.ntmps139
    go_wp2
    go_ret
    exact ⟨by rw [HX.out]; rfl, Below.refl _ _⟩
/-- What Canon tells. -/
def canE (l : List UInt8) : List UInt8 × Int := if 256 < l.length then ([], 3) else if nameB (lowL l) = false ∧ addrB (lowL l) = false then ([], 1) else (lowL l, 0)
theorem canon_e (l : List UInt8) : (decide ((canE l).2 = 0) && decide ((canE l).1 = l)) = canonB l := by
  rw [← canon_iff]
  unfold canE
  by_cases h : 256 < l.length
  · rw [if_pos h, decide_eq_false (by omega : ¬ l.length ≤ 256)]
    simp
  · rw [if_neg h, decide_eq_true (by omega : l.length ≤ 256)]
    cases h1 : nameB (lowL l) <;> cases h2 : addrB (lowL l) <;> simp
theorem canon_any (l : List UInt8) (hl : l.length ≤ 1000000) (w : World) : Calls Tryz.prog 111 #[.string (bs l)] w fun r w' => r = .returned (.tuple #[.string (bs (canE l).1), .int .i64 (canE l).2]) ∧ Below w.heap.size w w' := by
  have CL := Lib.hid (low_any l hl w)
  have hll : (lowL l).length ≤ 1000000 := by rw [lowL_len]; exact hl
  have CN := Lib.hid (fun w => name_any (lowL l) hll w)
  have CA := Lib.hid (fun w => addr_any (lowL l) hll w)
  unfold canE
  generalize lowL l = m at *
  by_cases h : 256 < l.length
  · have t1 : decide ((256 : Int) < (l.length : Int)) = true := decide_eq_true (by omega)
    rw [if_pos h]
    go_enter Tryz.func111, Tryz.ntmps111
    go_wp2
    go_ret2
    exact ⟨rfl, Below.refl _ _⟩
  · have t1 : decide ((256 : Int) < (l.length : Int)) = false := decide_eq_false (by omega)
    rw [if_neg h]
    cases hn : nameB m with
    | true =>
      rw [hn] at CN
      rw [if_neg (by simp)]
      go_enter Tryz.func111, Tryz.ntmps111
      go_wp2_with fail
      refine (CL.out).mono ?_; rintro e w1 ⟨rfl, b1⟩
      go_wp2_with fail
      refine (CN.out _).mono ?_; rintro e w2 ⟨rfl, b2⟩
      go_wp2
      go_ret2
      exact ⟨rfl, b1.trans (below_of_le b2 b1.size)⟩
    | false =>
      rw [hn] at CN
      cases ha : addrB m with
      | true =>
        rw [ha] at CA
        rw [if_neg (by simp)]
        go_enter Tryz.func111, Tryz.ntmps111
        go_wp2_with fail
        refine (CL.out).mono ?_; rintro e w1 ⟨rfl, b1⟩
        go_wp2_with fail
        refine (CN.out _).mono ?_; rintro e w2 ⟨rfl, b2⟩
        go_wp2_with fail
        refine (CA.out _).mono ?_; rintro e w3 ⟨rfl, b3⟩
        go_wp2
        go_ret2
        exact ⟨rfl, (b1.trans (below_of_le b2 b1.size)).trans (below_of_le b3 (Nat.le_trans b1.size b2.size))⟩
      | false =>
        rw [ha] at CA
        rw [if_pos (by simp)]
        go_enter Tryz.func111, Tryz.ntmps111
        go_wp2_with fail
        refine (CL.out).mono ?_; rintro e w1 ⟨rfl, b1⟩
        go_wp2_with fail
        refine (CN.out _).mono ?_; rintro e w2 ⟨rfl, b2⟩
        go_wp2_with fail
        refine (CA.out _).mono ?_; rintro e w3 ⟨rfl, b3⟩
        go_wp2
        go_ret2
        exact ⟨rfl, (b1.trans (below_of_le b2 b1.size)).trans (below_of_le b3 (Nat.le_trans b1.size b2.size))⟩
end Go.Proofs.YtpakmeegldgjmaaGreat
/- Events and messages, plain: may they be; their bytes. -/
namespace Go.Proofs.YtpakmeegldgjmaaGreat
set_option linter.unusedVariables false

/-- An event. -/
structure Ed where
  dot : Dt
  st : Int × Int × Int
  kind : Int
  name : List UInt8
  dom : List UInt8
  path : List UInt8
  value : List UInt8
  ho : Bool
  se : Bool
  ht : Bool
  pe : Bool
  exp : Int
  cre : Int
  acc : Int
  over : List Dt
/-- A text without controls, semicolons, and blanks at its ends. -/
def plainB (l : List UInt8) : Bool := !ctlL l && !hasB l 59 && endsB l
def timesB (pe : Bool) (exp cre acc : Int) : Bool := decide (-1099511627776 ≤ exp) && decide (exp ≤ 1099511627776) && decide (0 ≤ cre) && decide (cre ≤ 1099511627776) && decide (0 ≤ acc) && decide (acc ≤ 1099511627776) && (pe || decide (exp = 1099511627776))
/-- May a cookie be, with its key? -/
def itemB (name dom path value : List UInt8) (pe : Bool) (exp cre acc : Int) : Bool :=
  decide (name ≠ []) && decide (name.length ≤ 256) && plainB name && !hasB name 61 && decide (value.length ≤ 1024) && plainB value && canonB dom && (path.head?.any fun c => c.toNat == 47) && decide (path.length ≤ 256) && timesB pe exp cre acc
/-- May an event be over some dots? -/
def ovG (o : Dt) : Option Dt → List Dt → Bool
  | _, [] => true
  | p, d :: r => rightD d && (match p with | none => true | some q => dLt q d) && !(decide (d.1 = o.1) && decide (o.2 ≤ d.2)) && ovG o (some d) r
def overB (o : Dt) (l : List Dt) : Bool := decide (l.length ≤ 64) && ovG o none l
def zeroB (e : Ed) : Bool := decide (e.name = []) && decide (e.dom = []) && decide (e.path = []) && decide (e.value = []) && !e.ho && !e.se && !e.ht && !e.pe && decide (e.exp = 0) && decide (e.cre = 0) && decide (e.acc = 0)
/-- May an event be? -/
def evB (e : Ed) : Bool := rightD e.dot && stB e.st.1 e.st.2.1 e.st.2.2 && decide (e.st.2.2 = e.dot.1.1) && overB e.dot e.over &&
  (if e.kind = 2 then zeroB e && decide (e.over ≠ []) else if e.kind = 1 then itemB e.name e.dom e.path e.value e.pe e.exp e.cre e.acc else false)
/-- A text, packed. -/
def txP (l : List UInt8) : List UInt8 := vput l.length ++ l
def itP (e : Ed) : List UInt8 := txP e.name ++ (txP e.dom ++ (txP e.path ++ (txP e.value ++ (vput (foldI e.exp).toNat ++ (vput e.cre.toNat ++ vput e.acc.toNat)))))
/-- An event, packed. -/
def evP (e : Ed) : List UInt8 := dP e.dot ++ (stP e.st.1 e.st.2.1 e.st.2.2 ++ (flB [decide (e.kind = 1), e.ho, e.se, e.ht, e.pe] :: (vput e.over.length ++ (dsP e.over ++ if e.kind = 1 then itP e else []))))
/-- A message. -/
structure Md where
  kind : Int
  frm : Int
  dst : Int
  marks : List Dt
  evs : List Ed
def devB (n : Int) : Bool := decide (0 ≤ n) && decide (n < 64)
def riseG : Option Dt → List Ed → Bool
  | _, [] => true
  | p, e :: r => evB e && (match p with | none => true | some q => dLt q e.dot) && riseG (some e.dot) r
def riseB (l : List Ed) : Bool := riseG none l && decide (l.length ≤ 256)
/-- May a message be? -/
def msB (m : Md) : Bool := devB m.frm && devB m.dst && decide (m.frm ≠ m.dst) &&
  (if m.kind = 2 then decide (m.marks = []) && riseB m.evs else if m.kind = 1 ∨ m.kind = 3 then decide (m.evs = []) && decide (chkE m.marks = 0) else false)
/-- A message, packed; its bytes. -/
def msP (m : Md) : List UInt8 := vput m.kind.toNat ++ (vput m.frm.toNat ++ (vput m.dst.toNat ++ (nP m.marks ++ (vput m.evs.length ++ m.evs.flatMap evP))))
theorem riseG_mem {p : Option Dt} {l : List Ed} (h : riseG p l = true) : ∀ e ∈ l, evB e = true := by
  induction l generalizing p with
  | nil => intro e he; cases he
  | cons x r ih =>
    unfold riseG at h
    simp only [Bool.and_eq_true] at h
    intro e he
    rcases List.mem_cons.1 he with rfl | he
    · exact h.1.1
    · exact ih h.2 e he
theorem ovG_mem {o : Dt} {p : Option Dt} {l : List Dt} (h : ovG o p l = true) : ∀ d ∈ l, rightD d = true := by
  induction l generalizing p with
  | nil => intro e he; cases he
  | cons x r ih =>
    unfold ovG at h
    simp only [Bool.and_eq_true] at h
    intro e he
    rcases List.mem_cons.1 he with rfl | he
    · exact h.1.1.1
    · exact ih h.2 e he
theorem txP_len (l : List UInt8) (h : l.length < 18446744073709551616) : (txP l).length ≤ 10 + l.length := by
  unfold txP
  rw [List.length_append]
  have := vput_le h
  omega
end Go.Proofs.YtpakmeegldgjmaaGreat
/- Layer 14 (cookie): within, plain, Right; and the document's. -/
namespace Go.Proofs.YtpakmeegldgjmaaGreat
open Go.RowKit
set_option linter.unusedVariables false
set_option linter.unusedSimpArgs false
set_option maxRecDepth 100000
attribute [local go_sem high] idx_bs cut_bs cut_from cut_to
attribute [local go_sem] bs_size bs_list bs_nil_list bs_get bs_cut

theorem cut_bool (l : List UInt8) (c : Nat) (hl : l.length ≤ 1000000) (w : World) : Calls Tryz.prog 143 #[.string (bs l), .int .u8 (c : Int)] w fun e w' => e = .returned (.tuple #[.string (bs (l.take (fdN c l))), .string (bs (l.drop (fdN c l + 1))), .bool (hasB l c)]) ∧ Below w.heap.size w w' := by
  rw [hasB_fd]
  exact cut_any l c hl w
theorem kwithin_any (n a b : Int) (w : World) : Calls Tryz.prog 112 #[.int .i64 n, .int .i64 a, .int .i64 b] w fun r w' => r = .returned (.bool (decide (a ≤ n) && decide (n ≤ b))) ∧ w = w' := by
  by_cases h1 : a ≤ n
  · have t1 : decide (a ≤ n) = true := decide_eq_true h1
    by_cases h2 : n ≤ b
    · have t2 : decide (n ≤ b) = true := decide_eq_true h2
      rw [t1, t2]
      go_enter Tryz.func112, Tryz.ntmps112
      go_wp2
      go_ret
      exact ⟨rfl, rfl⟩
    · have t2 : decide (n ≤ b) = false := decide_eq_false h2
      rw [t1, t2]
      go_enter Tryz.func112, Tryz.ntmps112
      go_wp2
      go_ret
      exact ⟨rfl, rfl⟩
  · have t1 : decide (a ≤ n) = false := decide_eq_false h1
    rw [t1]
    go_enter Tryz.func112, Tryz.ntmps112
    go_wp2
    go_ret
    exact ⟨rfl, rfl⟩
/-- What 'plain' says. -/
def plB (l : List UInt8) (most : Nat) (S : List UInt8) : Bool := decide (l.length ≤ most) && !ctlL l && endsB l && S.all fun c => !hasB l c.toNat
theorem plain_any (l : List UInt8) (most : Nat) (hm : most ≤ 1000000) (S : List UInt8) (A : Option Addr) (n c : Nat) (hl : l.length ≤ 1000000) (w : World) (hr : Rd w w.heap.size 1 A n (bv S)) (hn : n ≤ 1000) :
    Calls Tryz.prog 113 #[.string (bs l), .int .i64 (most : Int), .slice A n c] w fun r w' => r = .returned (.bool (plB l most S)) ∧ Below w.heap.size w w' := by
  have CC := Lib.hid (fun w => control_any l hl w)
  have CT := Lib.hid (fun w => trim_any l hl w)
  have CX := Lib.hid (fun c w => cut_bool l c hl w)
  have HV := Lib.hid (show plB l most S = (decide (l.length ≤ most) && !ctlL l && endsB l && S.all fun c => !hasB l c.toNat) from rfl)
  have hSl : S.length = n := by have := hr.len; rw [bv_length] at this; exact this
  have HS := Lib.hid hSl
  have HR := Lib.hid hr
  have hte := Lib.hid (trim_ends l)
  clear hr hSl
  cases q1 : decide (l.length ≤ most) with
  | true =>
    have t1 : decide ((most : Int) < (l.length : Int)) = false := decide_eq_false (by have := of_decide_eq_true q1; omega)
    have t1n : decide (most < l.length) = false := decide_eq_false (by have := of_decide_eq_true q1; omega)
    cases q2 : ctlL l with
    | true =>
      go_enter Tryz.func113, Tryz.ntmps113
      go_wp2_with fail
      refine (CC.out _).mono ?_; rintro e w1 ⟨rfl, rfl⟩
      go_wp2
      go_ret
      exact ⟨by rw [HV.out, q2, q1]; simp, Below.refl _ _⟩
    | false =>
      cases q3 : endsB l with
      | true =>
        have t3 : (trimL l == l) = true := by have h := hte.out; rw [q3, decide_eq_true_eq] at h; rw [beq_iff_eq]; exact h
        go_enter Tryz.func113, Tryz.ntmps113
        go_wp2_with fail
        refine (CC.out _).mono ?_; rintro e w1 ⟨rfl, rfl⟩
        go_wp2_with fail
        refine (CT.out _).mono ?_; rintro e w2 ⟨rfl, rfl⟩
        go_wp2
        go_loopw [28] (fun i wr => ∃ j : Nat, j ≤ n ∧ i = .int .i64 j ∧ (∀ k, k < j → hasB l (ax S k) = false) ∧ Below w.heap.size w wr) (fun i _ => n - (intOf i).toNat)
        case atStart => exact ⟨0, by omega, rfl, fun k hk => absurd hk (by omega), Below.refl _ _⟩
        case round =>
          obtain ⟨j, hj, rfl, hk, hb⟩ := hrel
          have HK := Lib.hid (And.intro hk hb)
          by_cases hlt : j < n
          · obtain ⟨b, o, rfl, hbl, hc⟩ := (HR.out.below hb).byte hlt
            have hc' : wr.cell? ⟨b, o + j, none⟩ = some (.int .u8 (ax S j : Int)) := hc
            clear hk hb hc
            have CXj := Lib.hid (CX.out (ax S j))
            cases hx : hasB l (ax S j) with
            | true =>
              rw [hx] at CXj
              have HF := Lib.hid (show S.all (fun c => !hasB l c.toNat) = false from all_at (q := fun c => !hasB l c) (fun x => rfl) (by rw [HS.out]; exact hlt) (by show (!hasB l (ax S j)) = false; rw [hx]; rfl))
              go_wp2_with fail
              refine (CXj.out _).mono ?_; rintro e w3 ⟨rfl, b3⟩
              have B3 := Lib.hid (HK.out.2.trans (below_of_le b3 HK.out.2.size))
              clear b3
              go_wp2
              go_ret
              exact ⟨by rw [HV.out, HF.out]; simp, B3.out⟩
            | false =>
              rw [hx] at CXj
              have HF := Lib.hid (show ∀ k, k < j + 1 → hasB l (ax S k) = false from fun k hk' => by
                by_cases hkj : k = j
                · subst hkj; exact hx
                · exact HK.out.1 k (by omega))
              go_wp2_with fail
              refine (CXj.out _).mono ?_; rintro e w3 ⟨rfl, b3⟩
              have B3 := Lib.hid (HK.out.2.trans (below_of_le b3 HK.out.2.size))
              clear b3
              go_wp2
              go_roundw
              case rel => exact ⟨j + 1, by omega, by go_num, HF.out, B3.out⟩
              case measure => simp [intOf]; omega
          · have HF := Lib.hid (show S.all (fun c => !hasB l c.toNat) = true from all_yes (q := fun c => !hasB l c) (fun x => rfl) (fun k hk' => by show (!hasB l (ax S k)) = true; rw [HK.out.1 k (by have := HS.out; omega)]; rfl))
            clear hk hb
            go_wp2
            go_ret
            exact ⟨by rw [HV.out, q1, q2, q3, HF.out]; rfl, HK.out.2⟩
      | false =>
        have t3 : (trimL l == l) = false := by have h := hte.out; rw [q3, decide_eq_false_iff_not] at h; rw [beq_eq_false_iff_ne]; exact h
        go_enter Tryz.func113, Tryz.ntmps113
        go_wp2_with fail
        refine (CC.out _).mono ?_; rintro e w1 ⟨rfl, rfl⟩
        go_wp2_with fail
        refine (CT.out _).mono ?_; rintro e w2 ⟨rfl, rfl⟩
        go_wp2
        go_ret
        exact ⟨by rw [HV.out, q3, q2, q1]; simp, Below.refl _ _⟩
  | false =>
    have t1 : decide ((most : Int) < (l.length : Int)) = true := decide_eq_true (by have := of_decide_eq_false q1; omega)
    have t1n : decide (most < l.length) = true := decide_eq_true (by have := of_decide_eq_false q1; omega)
    go_enter Tryz.func113, Tryz.ntmps113
    go_wp2
    go_ret
    exact ⟨by rw [HV.out, q1]; simp, Below.refl _ _⟩
end Go.Proofs.YtpakmeegldgjmaaGreat
/- Layer 14 (cookie): Right. -/
namespace Go.Proofs.YtpakmeegldgjmaaGreat
open Go.RowKit
set_option linter.unusedVariables false
set_option linter.unusedSimpArgs false
set_option maxRecDepth 100000
attribute [local go_sem ↓] Go.wp_at_zero Go.wp_at_succ
attribute [local go_sem high] idx_bs cut_bs cut_from cut_to
attribute [local go_sem] bs_size bs_list bs_nil_list bs_get bs_cut

def keyC (e : Ed) : Array Value := #[.string (bs e.name), .string (bs e.dom), .string (bs e.path)]
def cookC (e : Ed) : Array Value := #[.string (bs e.value), .bool e.ho, .bool e.se, .bool e.ht, .bool e.pe, .int .i64 e.exp, .int .i64 e.cre, .int .i64 e.acc]
def itV (e : Ed) : Value := .agg #[.string (bs e.name), .string (bs e.dom), .string (bs e.path), .string (bs e.value), .bool e.ho, .bool e.se, .bool e.ht, .bool e.pe, .int .i64 e.exp, .int .i64 e.cre, .int .i64 e.acc]
/-- A key and a cookie in blocks of their own. -/
def KC (N : Nat) (w : World) (K C : Nat) (e : Ed) (W : World) : Prop := Whole W K 54 (keyC e) ∧ Whole W C 56 (cookC e) ∧ Below N w W ∧ N ≤ W.heap.size
section
variable {N K C : Nat} {w W W' : World} {e : Ed}
theorem KC.step (h : KC N w K C e W) (b : Below W.heap.size W W') : KC N w K C e W' :=
  ⟨h.1.below b h.1.lt, h.2.1.below b h.2.1.lt, h.2.2.1.trans (below_of_le b h.2.2.2), Nat.le_trans h.2.2.2 b.size⟩
theorem KC.stepA (h : KC N w K C e W) {o : Obj} (b : Below (W.alloc o).heap.size (W.alloc o) W') : KC N w K C e W' :=
  h.step (((Below.refl W.heap.size W).alloc (Nat.le_refl _) o).trans (below_of_le b (by simp)))
theorem KC.drew (h : KC N w K C e W) : KC N w K C e W.drew := ⟨h.1.drew, h.2.1.drew, h.2.2.1.drew, h.2.2.2⟩
theorem KC.cells (h : KC N w K C e W) : W.cell? ⟨K, 0, none⟩ = some (.string (bs e.name)) ∧ W.cell? ⟨K, 1, none⟩ = some (.string (bs e.dom)) ∧ W.cell? ⟨K, 2, none⟩ = some (.string (bs e.path)) ∧ W.cell? ⟨C, 0, none⟩ = some (.string (bs e.value)) ∧ W.cell? ⟨C, 4, none⟩ = some (.bool e.pe) ∧ W.cell? ⟨C, 5, none⟩ = some (.int .i64 e.exp) ∧ W.cell? ⟨C, 6, none⟩ = some (.int .i64 e.cre) ∧ W.cell? ⟨C, 7, none⟩ = some (.int .i64 e.acc) := by
  refine ⟨?_, ?_, ?_, ?_, ?_, ?_, ?_, ?_⟩
  all_goals first | (rw [h.1.cell]; rfl) | (rw [h.2.1.cell]; rfl)
end
theorem plB_name (l : List UInt8) : plB l 256 [59, 61] = (decide (l.length ≤ 256) && (plainB l && !hasB l 61)) := by
  unfold plB plainB
  simp only [List.all_cons, List.all_nil, Bool.and_true]
  show (decide (l.length ≤ 256) && !ctlL l && endsB l && (!hasB l 59 && !hasB l 61)) = _
  cases decide (l.length ≤ 256) <;> cases ctlL l <;> cases endsB l <;> cases hasB l 59 <;> cases hasB l 61 <;> rfl
theorem plB_value (l : List UInt8) : plB l 1024 [59] = (decide (l.length ≤ 1024) && plainB l) := by
  unfold plB plainB
  simp only [List.all_cons, List.all_nil, Bool.and_true]
  show (decide (l.length ≤ 1024) && !ctlL l && endsB l && !hasB l 59) = _
  cases decide (l.length ≤ 1024) <;> cases ctlL l <;> cases endsB l <;> cases hasB l 59 <;> rfl
theorem dec_beq_nil (l : List UInt8) : decide (l ≠ []) = !(l == []) := by cases l <;> rfl
theorem path_ax (l : List UInt8) : (l.head?.any fun c => c.toNat == 47) = (!(l == []) && (ax l 0 == 47)) := by cases l <;> rfl
theorem itemB_eq (name dom path value : List UInt8) (pe : Bool) (exp cre acc : Int) : itemB name dom path value pe exp cre acc =
    (!(name == []) && plB name 256 [59, 61] && plB value 1024 [59] && ((canE dom).2 == 0) && ((canE dom).1 == dom) && !(path == []) && (ax path 0 == 47) && decide (path.length ≤ 256) && timesB pe exp cre acc) := by
  unfold itemB
  rw [dec_beq_nil, path_ax, ← canon_e, plB_name, plB_value]
  have e1 : decide ((canE dom).2 = 0) = ((canE dom).2 == 0) := by rw [Bool.eq_iff_iff]; simp
  have e2 : decide ((canE dom).1 = dom) = ((canE dom).1 == dom) := by rw [Bool.eq_iff_iff]; simp
  rw [e1, e2]
  cases (name == []) <;> cases decide (name.length ≤ 256) <;> cases plainB name <;> cases hasB name 61 <;> cases decide (value.length ≤ 1024) <;> cases plainB value <;> cases ((canE dom).2 == 0) <;> cases ((canE dom).1 == dom) <;> cases (path == []) <;> simp
def timB (pe : Bool) (exp cre acc : Int) : Bool := (decide (-1099511627776 ≤ exp) && decide (exp ≤ 1099511627776)) && (decide (0 ≤ cre) && decide (cre ≤ 1099511627776)) && (decide (0 ≤ acc) && decide (acc ≤ 1099511627776)) && (pe || (exp == 1099511627776))
theorem timB_eq (pe : Bool) (exp cre acc : Int) : timesB pe exp cre acc = timB pe exp cre acc := by
  unfold timesB timB
  have e1 : decide (exp = 1099511627776) = (exp == 1099511627776) := by rw [Bool.eq_iff_iff]; simp
  rw [e1]
  cases decide (-1099511627776 ≤ exp) <;> cases decide (exp ≤ 1099511627776) <;> cases decide (0 ≤ cre) <;> cases decide (cre ≤ 1099511627776) <;> simp
set_option maxHeartbeats 4000000 in
theorem cright14_any (e : Ed) (w : World) (h1 : e.name.length ≤ 1000000) (h2 : e.dom.length ≤ 1000000) (h3 : e.path.length ≤ 1000000) (h4 : e.value.length ≤ 1000000) :
    Calls Tryz.prog 88 #[itV e] w fun r w' => r = .returned (.bool (itemB e.name e.dom e.path e.value e.pe e.exp e.cre e.acc)) ∧ Below w.heap.size w w' := by
  have CC := Lib.hid (fun w => canon_any e.dom h2 w)
  have CW := Lib.hid (fun n a b w => kwithin_any n a b w)
  have CP1 := Lib.hid (fun W : World => plain_any e.name 256 (by omega) [59, 61] (some ⟨W.heap.size, 0, none⟩) 2 2 h1 (W.alloc (.cells #[.int .u8 59, .int .u8 61] 5)) ((Rd.fresh W #[.int .u8 59, .int .u8 61] 5 2 rfl).more (by simp)) (by omega))
  have CP2 := Lib.hid (fun W : World => plain_any e.value 1024 (by omega) [59] (some ⟨W.heap.size, 0, none⟩) 1 1 h4 (W.alloc (.cells #[.int .u8 59] 5)) ((Rd.fresh W #[.int .u8 59] 5 1 rfl).more (by simp)) (by omega))
  rw [itemB_eq, timB_eq]
  rw [show ((256 : Nat) : Int) = 256 from rfl] at CP1
  rw [show ((1024 : Nat) : Int) = 1024 from rfl] at CP2
  have HT := Lib.hid (show timB e.pe e.exp e.cre e.acc = _ from rfl)
  generalize hT : timB e.pe e.exp e.cre e.acc = T at *
  have HT2 := Lib.hid hT
  clear hT
  generalize hV : (!(e.name == []) && plB e.name 256 [59, 61] && plB e.value 1024 [59] && ((canE e.dom).2 == 0) && ((canE e.dom).1 == e.dom) && !(e.path == []) && (ax e.path 0 == 47) && decide (e.path.length ≤ 256) && T) = V
  have HV := Lib.hid hV.symm
  clear hV
  generalize plB e.name 256 [59, 61] = P1 at *
  generalize plB e.value 1024 [59] = P2 at *
  generalize canE e.dom = dx at *
  obtain ⟨d, x⟩ := dx
  simp only at HV CC
  have hI := (Below.refl w.heap.size w).alloc (Nat.le_refl _) (.cells #[.string (bs e.name), .string (bs e.dom), .string (bs e.path), .string (bs e.value), .bool e.ho, .bool e.se, .bool e.ht, .bool e.pe, .int .i64 e.exp, .int .i64 e.cre, .int .i64 e.acc] 121)
  have hK1 : KC w.heap.size w (w.heap.size + 1) (w.heap.size + 1 + 1) e (((w.alloc (.cells #[.string (bs e.name), .string (bs e.dom), .string (bs e.path), .string (bs e.value), .bool e.ho, .bool e.se, .bool e.ht, .bool e.pe, .int .i64 e.exp, .int .i64 e.cre, .int .i64 e.acc] 121)).alloc (.cells (keyC e) 54)).alloc (.cells (cookC e) 56)) := by
    have a := (Whole.new (w.alloc (.cells #[.string (bs e.name), .string (bs e.dom), .string (bs e.path), .string (bs e.value), .bool e.ho, .bool e.se, .bool e.ht, .bool e.pe, .int .i64 e.exp, .int .i64 e.cre, .int .i64 e.acc] 121)) 54 (keyC e)).alloc (.cells (cookC e) 56)
    have b := Whole.new ((w.alloc (.cells #[.string (bs e.name), .string (bs e.dom), .string (bs e.path), .string (bs e.value), .bool e.ho, .bool e.se, .bool e.ht, .bool e.pe, .int .i64 e.exp, .int .i64 e.cre, .int .i64 e.acc] 121)).alloc (.cells (keyC e) 54)) 56 (cookC e)
    simp only [World.size_alloc] at a b
    exact ⟨a, b, (hI.alloc (by simp) _).alloc (by simp; omega) _, by simp; omega⟩
  have hK2 : KC w.heap.size w (w.heap.size + 1 + 1) (w.heap.size + 1) e (((w.alloc (.cells #[.string (bs e.name), .string (bs e.dom), .string (bs e.path), .string (bs e.value), .bool e.ho, .bool e.se, .bool e.ht, .bool e.pe, .int .i64 e.exp, .int .i64 e.cre, .int .i64 e.acc] 121)).alloc (.cells (cookC e) 56)).alloc (.cells (keyC e) 54)) := by
    have a := (Whole.new (w.alloc (.cells #[.string (bs e.name), .string (bs e.dom), .string (bs e.path), .string (bs e.value), .bool e.ho, .bool e.se, .bool e.ht, .bool e.pe, .int .i64 e.exp, .int .i64 e.cre, .int .i64 e.acc] 121)) 56 (cookC e)).alloc (.cells (keyC e) 54)
    have b := Whole.new ((w.alloc (.cells #[.string (bs e.name), .string (bs e.dom), .string (bs e.path), .string (bs e.value), .bool e.ho, .bool e.se, .bool e.ht, .bool e.pe, .int .i64 e.exp, .int .i64 e.cre, .int .i64 e.acc] 121)).alloc (.cells (cookC e) 56)) 54 (keyC e)
    simp only [World.size_alloc] at a b
    exact ⟨b, a, (hI.alloc (by simp) _).alloc (by simp; omega) _, by simp; omega⟩
  have HK1 := Lib.hid hK1
  have HK2 := Lib.hid hK2
  clear hI hK1 hK2
  generalize hN : w.heap.size = N at *
  have HN := Lib.hid hN
  clear hN
  unfold itV
  go_enter Tryz.func88, Tryz.ntmps88
  go_upto_region 1 with fail
  go_cut [3, 4] from 8 to 11 (fun p q wx => ∃ K C, p = .pointer (some ⟨K, 0, none⟩) ∧ q = .pointer (some ⟨C, 0, none⟩) ∧ KC N w K C e wx)
  case first =>
    go_region
    all_goals (go_wp2; go_meet)
    · exact ⟨_, _, rfl, rfl, by rw [HN.out]; exact HK1.out.drew⟩
    · exact ⟨_, _, rfl, rfl, by rw [HN.out]; exact HK2.out.drew⟩
  case rest =>
    obtain ⟨K, C, rfl, rfl, hKC⟩ := hcut
    have hKC := Lib.hid hKC
    clear HK1 HK2
    obtain ⟨k0, k1, k2, c0, c4, c5, c6, c7⟩ := hKC.out.cells
    go_wp2_with fail
    refine (CC.out _).mono ?_; rintro r w1 ⟨rfl, b1⟩
    clear k0 k1 k2 c0 c4 c5 c6 c7
    replace hKC := Lib.hid (hKC.out.step b1)
    clear b1 CC
    obtain ⟨k0, k1, k2, c0, c4, c5, c6, c7⟩ := hKC.out.cells
    go_upto_region 3 with fail
    go_cut [7] from 18 to 39 (fun v wx => v = .bool T ∧ wx = w1)
    case first =>
      have HT3 := HT2.out
      unfold timB at HT3
      have CW1 := Lib.hid (CW.out e.exp (-1099511627776) 1099511627776)
      have CW2 := Lib.hid (CW.out e.cre 0 1099511627776)
      have CW3 := Lib.hid (CW.out e.acc 0 1099511627776)
      generalize (decide (-1099511627776 ≤ e.exp) && decide (e.exp ≤ 1099511627776)) = B1 at *
      generalize (decide (0 ≤ e.cre) && decide (e.cre ≤ 1099511627776)) = B2 at *
      generalize (decide (0 ≤ e.acc) && decide (e.acc ≤ 1099511627776)) = B3 at *
      have HT4 := Lib.hid HT3.symm
      clear HT3 HT HT2 CW
      obtain ⟨pe', hpe⟩ : ∃ p : Bool, p = e.pe := ⟨_, rfl⟩
      rw [← hpe] at c4
      have HPE := Lib.hid hpe
      clear hpe
      cases q1 : B1 with
      | true =>
        cases q2 : B2 with
        | true =>
          cases q3 : B3 with
          | true =>
            cases pe' with
            | true =>
              go_wp2_with fail
              refine (CW1.out _).mono ?_; rintro r w2 ⟨rfl, rfl⟩
              go_wp2_with fail
              refine (CW2.out _).mono ?_; rintro r w3 ⟨rfl, rfl⟩
              go_wp2_with fail
              refine (CW3.out _).mono ?_; rintro r w4 ⟨rfl, rfl⟩
              go_wp2
              go_meet
              exact ⟨by rw [HT4.out, ← HPE.out]; simp [q1, q2, q3], rfl⟩
            | false =>
              cases q5 : (e.exp == 1099511627776) with
              | true =>
                go_wp2_with fail
                refine (CW1.out _).mono ?_; rintro r w2 ⟨rfl, rfl⟩
                go_wp2_with fail
                refine (CW2.out _).mono ?_; rintro r w3 ⟨rfl, rfl⟩
                go_wp2_with fail
                refine (CW3.out _).mono ?_; rintro r w4 ⟨rfl, rfl⟩
                go_wp2
                go_meet
                exact ⟨by rw [HT4.out, ← HPE.out]; simp [q1, q2, q3, q5], rfl⟩
              | false =>
                go_wp2_with fail
                refine (CW1.out _).mono ?_; rintro r w2 ⟨rfl, rfl⟩
                go_wp2_with fail
                refine (CW2.out _).mono ?_; rintro r w3 ⟨rfl, rfl⟩
                go_wp2_with fail
                refine (CW3.out _).mono ?_; rintro r w4 ⟨rfl, rfl⟩
                go_wp2
                go_meet
                exact ⟨by rw [HT4.out, ← HPE.out]; simp [q1, q2, q3, q5], rfl⟩
          | false =>
            go_wp2_with fail
            refine (CW1.out _).mono ?_; rintro r w2 ⟨rfl, rfl⟩
            go_wp2_with fail
            refine (CW2.out _).mono ?_; rintro r w3 ⟨rfl, rfl⟩
            go_wp2_with fail
            refine (CW3.out _).mono ?_; rintro r w4 ⟨rfl, rfl⟩
            go_wp2
            go_meet
            exact ⟨by rw [HT4.out, ← HPE.out]; simp [q1, q2, q3], rfl⟩
        | false =>
          go_wp2_with fail
          refine (CW1.out _).mono ?_; rintro r w2 ⟨rfl, rfl⟩
          go_wp2_with fail
          refine (CW2.out _).mono ?_; rintro r w3 ⟨rfl, rfl⟩
          go_wp2
          go_meet
          exact ⟨by rw [HT4.out, ← HPE.out]; simp [q1, q2], rfl⟩
      | false =>
        go_wp2_with fail
        refine (CW1.out _).mono ?_; rintro r w2 ⟨rfl, rfl⟩
        go_wp2
        go_meet
        exact ⟨by rw [HT4.out, ← HPE.out]; simp [q1], rfl⟩
    case rest =>
      obtain ⟨rfl, rfl⟩ := hcut
      clear HT HT2 CW
      cases q0 : (e.name == []) with
      | true =>
        go_wp2
        go_ret
        exact ⟨by rw [HV.out]; simp [q0], HN.out ▸ hKC.out.2.2.1⟩
      | false =>
        cases q1 : P1 with
        | true =>
          cases q2 : P2 with
          | true =>
            cases q3 : (x == 0) with
            | true =>
              cases q4 : (d == e.dom) with
              | true =>
                cases q5 : (e.path == []) with
                | true =>
                  go_wp2_with fail
                  refine (CP1.out _).mono ?_; rintro r w2 ⟨rfl, b2⟩
                  clear k0 k1 k2 c0 c4 c5 c6 c7
                  replace hKC := Lib.hid (hKC.out.stepA b2)
                  clear b2
                  obtain ⟨k0, k1, k2, c0, c4, c5, c6, c7⟩ := hKC.out.cells
                  go_wp2_with fail
                  refine (CP2.out _).mono ?_; rintro r w3 ⟨rfl, b3⟩
                  clear k0 k1 k2 c0 c4 c5 c6 c7
                  replace hKC := Lib.hid (hKC.out.stepA b3)
                  clear b3
                  obtain ⟨k0, k1, k2, c0, c4, c5, c6, c7⟩ := hKC.out.cells
                  go_wp2
                  go_ret
                  exact ⟨by rw [HV.out]; simp [q0, q1, q2, q3, q4, q5], HN.out ▸ hKC.out.2.2.1⟩
                | false =>
                  have hp : (0 : Int) < (e.path.length : Int) := by
                    have : e.path ≠ [] := by intro h; rw [h] at q5; cases q5
                    have := List.length_pos_iff.2 this
                    omega
                  cases q6 : (ax e.path 0 == 47) with
                  | true =>
                    have t6 : ((ax e.path 0 : Int) == 47) = true := by rw [beq_iff_eq] at q6; rw [beq_iff_eq]; omega
                    cases q7 : decide (e.path.length ≤ 256) with
                    | true =>
                      have t7 : decide ((e.path.length : Int) ≤ 256) = true := decide_eq_true (by have := of_decide_eq_true q7; omega)
                      cases q8 : T with
                      | true =>
                        go_wp2_with fail
                        refine (CP1.out _).mono ?_; rintro r w2 ⟨rfl, b2⟩
                        clear k0 k1 k2 c0 c4 c5 c6 c7
                        replace hKC := Lib.hid (hKC.out.stepA b2)
                        clear b2
                        obtain ⟨k0, k1, k2, c0, c4, c5, c6, c7⟩ := hKC.out.cells
                        go_wp2_with fail
                        refine (CP2.out _).mono ?_; rintro r w3 ⟨rfl, b3⟩
                        clear k0 k1 k2 c0 c4 c5 c6 c7
                        replace hKC := Lib.hid (hKC.out.stepA b3)
                        clear b3
                        obtain ⟨k0, k1, k2, c0, c4, c5, c6, c7⟩ := hKC.out.cells
                        go_wp2
                        go_ret
                        exact ⟨by rw [HV.out]; simp [q0, q1, q2, q3, q4, q5, q6, q7, q8], HN.out ▸ hKC.out.2.2.1⟩
                      | false =>
                        go_wp2_with fail
                        refine (CP1.out _).mono ?_; rintro r w2 ⟨rfl, b2⟩
                        clear k0 k1 k2 c0 c4 c5 c6 c7
                        replace hKC := Lib.hid (hKC.out.stepA b2)
                        clear b2
                        obtain ⟨k0, k1, k2, c0, c4, c5, c6, c7⟩ := hKC.out.cells
                        go_wp2_with fail
                        refine (CP2.out _).mono ?_; rintro r w3 ⟨rfl, b3⟩
                        clear k0 k1 k2 c0 c4 c5 c6 c7
                        replace hKC := Lib.hid (hKC.out.stepA b3)
                        clear b3
                        obtain ⟨k0, k1, k2, c0, c4, c5, c6, c7⟩ := hKC.out.cells
                        go_wp2
                        go_ret
                        exact ⟨by rw [HV.out]; simp [q0, q1, q2, q3, q4, q5, q6, q7, q8], HN.out ▸ hKC.out.2.2.1⟩
                    | false =>
                      have t7 : decide ((e.path.length : Int) ≤ 256) = false := decide_eq_false (by have := of_decide_eq_false q7; omega)
                      go_wp2_with fail
                      refine (CP1.out _).mono ?_; rintro r w2 ⟨rfl, b2⟩
                      clear k0 k1 k2 c0 c4 c5 c6 c7
                      replace hKC := Lib.hid (hKC.out.stepA b2)
                      clear b2
                      obtain ⟨k0, k1, k2, c0, c4, c5, c6, c7⟩ := hKC.out.cells
                      go_wp2_with fail
                      refine (CP2.out _).mono ?_; rintro r w3 ⟨rfl, b3⟩
                      clear k0 k1 k2 c0 c4 c5 c6 c7
                      replace hKC := Lib.hid (hKC.out.stepA b3)
                      clear b3
                      obtain ⟨k0, k1, k2, c0, c4, c5, c6, c7⟩ := hKC.out.cells
                      go_wp2
                      go_ret
                      exact ⟨by rw [HV.out]; simp [q0, q1, q2, q3, q4, q5, q6, q7], HN.out ▸ hKC.out.2.2.1⟩
                  | false =>
                    have t6 : ((ax e.path 0 : Int) == 47) = false := by rw [beq_eq_false_iff_ne] at q6; rw [beq_eq_false_iff_ne]; omega
                    go_wp2_with fail
                    refine (CP1.out _).mono ?_; rintro r w2 ⟨rfl, b2⟩
                    clear k0 k1 k2 c0 c4 c5 c6 c7
                    replace hKC := Lib.hid (hKC.out.stepA b2)
                    clear b2
                    obtain ⟨k0, k1, k2, c0, c4, c5, c6, c7⟩ := hKC.out.cells
                    go_wp2_with fail
                    refine (CP2.out _).mono ?_; rintro r w3 ⟨rfl, b3⟩
                    clear k0 k1 k2 c0 c4 c5 c6 c7
                    replace hKC := Lib.hid (hKC.out.stepA b3)
                    clear b3
                    obtain ⟨k0, k1, k2, c0, c4, c5, c6, c7⟩ := hKC.out.cells
                    go_wp2
                    go_ret
                    exact ⟨by rw [HV.out]; simp [q0, q1, q2, q3, q4, q5, q6], HN.out ▸ hKC.out.2.2.1⟩
              | false =>
                go_wp2_with fail
                refine (CP1.out _).mono ?_; rintro r w2 ⟨rfl, b2⟩
                clear k0 k1 k2 c0 c4 c5 c6 c7
                replace hKC := Lib.hid (hKC.out.stepA b2)
                clear b2
                obtain ⟨k0, k1, k2, c0, c4, c5, c6, c7⟩ := hKC.out.cells
                go_wp2_with fail
                refine (CP2.out _).mono ?_; rintro r w3 ⟨rfl, b3⟩
                clear k0 k1 k2 c0 c4 c5 c6 c7
                replace hKC := Lib.hid (hKC.out.stepA b3)
                clear b3
                obtain ⟨k0, k1, k2, c0, c4, c5, c6, c7⟩ := hKC.out.cells
                go_wp2
                go_ret
                exact ⟨by rw [HV.out]; simp [q0, q1, q2, q3, q4], HN.out ▸ hKC.out.2.2.1⟩
            | false =>
              go_wp2_with fail
              refine (CP1.out _).mono ?_; rintro r w2 ⟨rfl, b2⟩
              clear k0 k1 k2 c0 c4 c5 c6 c7
              replace hKC := Lib.hid (hKC.out.stepA b2)
              clear b2
              obtain ⟨k0, k1, k2, c0, c4, c5, c6, c7⟩ := hKC.out.cells
              go_wp2_with fail
              refine (CP2.out _).mono ?_; rintro r w3 ⟨rfl, b3⟩
              clear k0 k1 k2 c0 c4 c5 c6 c7
              replace hKC := Lib.hid (hKC.out.stepA b3)
              clear b3
              obtain ⟨k0, k1, k2, c0, c4, c5, c6, c7⟩ := hKC.out.cells
              go_wp2
              go_ret
              exact ⟨by rw [HV.out]; simp [q0, q1, q2, q3], HN.out ▸ hKC.out.2.2.1⟩
          | false =>
            go_wp2_with fail
            refine (CP1.out _).mono ?_; rintro r w2 ⟨rfl, b2⟩
            clear k0 k1 k2 c0 c4 c5 c6 c7
            replace hKC := Lib.hid (hKC.out.stepA b2)
            clear b2
            obtain ⟨k0, k1, k2, c0, c4, c5, c6, c7⟩ := hKC.out.cells
            go_wp2_with fail
            refine (CP2.out _).mono ?_; rintro r w3 ⟨rfl, b3⟩
            clear k0 k1 k2 c0 c4 c5 c6 c7
            replace hKC := Lib.hid (hKC.out.stepA b3)
            clear b3
            obtain ⟨k0, k1, k2, c0, c4, c5, c6, c7⟩ := hKC.out.cells
            go_wp2
            go_ret
            exact ⟨by rw [HV.out]; simp [q0, q1, q2], HN.out ▸ hKC.out.2.2.1⟩
        | false =>
          go_wp2_with fail
          refine (CP1.out _).mono ?_; rintro r w2 ⟨rfl, b2⟩
          clear k0 k1 k2 c0 c4 c5 c6 c7
          replace hKC := Lib.hid (hKC.out.stepA b2)
          clear b2
          obtain ⟨k0, k1, k2, c0, c4, c5, c6, c7⟩ := hKC.out.cells
          go_wp2
          go_ret
          exact ⟨by rw [HV.out]; simp [q0, q1], HN.out ▸ hKC.out.2.2.1⟩
end Go.Proofs.YtpakmeegldgjmaaGreat
