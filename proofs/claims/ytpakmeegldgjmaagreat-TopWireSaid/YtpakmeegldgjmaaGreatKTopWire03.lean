/- TopWire: part 3 of what the proof rests on: contracts of functions, and plain laws. -/
import Derived.WalkKit
import Derived.ProofKit
import Derived.OpenShut
import Derived.Handy
import Derived.Outline
import Derived.Lib.Hide
import Derived.Deep.Draws
import Derived.Laws.OwnMore
import Derived.Laws.AppendOwn
import Derived.Laws.AppendOwnNone
import Derived.Laws.BitsAllLaws
import Derived.Laws.Bits64b
import Derived.Lib.AppendZeros
import Derived.Lib.AppendZerosOnto
import Derived.Laws.CopyRow
import Derived.Lib.AppendStr
import Derived.Test.YtpakmeegldgjmaaGreatRows
import Derived.Lib.Zigzag
import Derived.Deep.QuietTactic
import Derived.BigQuiet
import Derived.Deep.LoopGhost
import Derived.BigRegion
import Derived.RegionTactic
import Derived.Deep.WholeRow
import Derived.Deep.Slices
import Derived.Lib.Varint
import Derived.WalkSpells
import Derived.Laws.BytesString
import Derived.Laws.Concat
import Derived.IntWalk
import Derived.Test.YtpakmeegldgjmaaGreatProg
import Derived.Deep.RegionHeld3
import Derived.StillTailTactics
import Derived.Laws.StructEq
import Derived.Lib.SmallJoins
import Derived.Deep.Strs
import Derived.Laws.IdiomStrings
import Derived.Lib.SlBytesConst
import Derived.Deep.RegionWith
import Derived.Maps.Own
import Derived.Maps.OwnSet
import Derived.Maps.Range
import Derived.DeepKeys4
import Derived.ChangeKeysEq
import Derived.DeepKeys2
import Derived.RangeFuncNested
import Derived.RangeFuncBound
import Derived.RangeFuncCalls
import Derived.RangeFuncLeaves
import Derived.Sort.MapsRangeIn
import Derived.OwnWalkIn
import Derived.TacticsInMore
import Derived.RegionIn
import Derived.LoopNIn
import Derived.LoopIn
import Derived.Maps.AppendAt
import Derived.Sort.Grow
import Derived.Shelf.GgSortFunc.InsertionK
import Derived.Shelf.SlSortCmp.NoneTotal
import Derived.WideKeyEntry
import Derived.Deep.CutBlock
import Derived.Deep.CutRange
import Derived.Deep.RegionLaw
import Derived.Deep.DeepCutAuto
import Derived.Deep.DrawnRows
import Derived.WalkLawsBesides
import Derived.Deep.MidRow
import Derived.Laws.Strings2
import Derived.Test.YtpakmeegldgjmaaGreatKTopWire02
/- Layer 6 (ascii): Cut, Split, Trim, Digits, Number. -/
namespace Go.Proofs.YtpakmeegldgjmaaGreat
open Go.RowKit
set_option linter.unusedVariables false
set_option maxRecDepth 100000
attribute [local go_sem high] idx_bs cut_bs cut_from cut_to
attribute [local go_sem] bs_size bs_list bs_nil_list bs_get bs_cut

theorem cut_any (l : List UInt8) (c : Nat) (hl : l.length ≤ 1000000) (w : World) : Calls Tryz.prog 143 #[.string (bs l), .int .u8 (c : Int)] w fun e w' => e = .returned (.tuple #[.string (bs (l.take (fdN c l))), .string (bs (l.drop (fdN c l + 1))), .bool (decide (fdN c l < l.length))]) ∧ Below w.heap.size w w' := by
  have C1 := Lib.hid (find_any l c hl w)
  have hle := fdN_le c l
  by_cases h : fdN c l < l.length
  · rw [decide_eq_true h]
    rw [if_pos h] at C1
    have hk' : fdN c l < 1000000 := by omega
    generalize fdN c l = k at *
    have t1 : decide ((k : Int) < 0) = false := by simp
    have e1 : ((k : Int) + 1).toNat = k + 1 := by omega
    have h1 : (k : Int) + 1 ≤ (l.length : Int) := by omega
    have h2 : (0 : Int) ≤ (k : Int) + 1 := by omega
    have e2 : IntKind.i64.wrap ((k : Int) + 1) = (k : Int) + 1 := IntWalk.i64_in _ (by omega)
    go_enter Tryz.func143, Tryz.ntmps143
    go_wp2_with fail
    refine (C1.out).mono ?_; rintro e w1 ⟨rfl, rfl⟩
    go_wp2
    go_quiet (fail)
    go_wp2
    go_ret3
    exact ⟨rfl, below_drewN (Below.refl _ _) _⟩
  · have hk : fdN c l = l.length := by omega
    rw [decide_eq_false h, hk, List.take_of_length_le (Nat.le_refl _), List.drop_of_length_le (by omega)]
    rw [if_neg h] at C1
    go_enter Tryz.func143, Tryz.ntmps143
    go_wp2_with fail
    refine (C1.out).mono ?_; rintro e w1 ⟨rfl, rfl⟩
    go_wp2
    go_ret3
    exact ⟨rfl, Below.refl _ _⟩
/-- A text's length, of a value. -/
def szOf : Value → Nat
  | .string s => s.size
  | _ => 0
/-- Slices of texts. -/
def stv (L : List (List UInt8)) : List Value := L.map fun l => Value.string (bs l)
theorem stv_get {L : List (List UInt8)} {i : Nat} {x : List UInt8} (h : L[i]? = some x) : (stv L)[i]? = some (.string (bs x)) := by simp [stv, h]
theorem Tryz.info_str : (Tryz.prog.info? 9).map (fun i => (i.zero, i.size, i.bytes)) = some (some (.string ⟨#[]⟩), 1, 16) := by kernel_rfl
theorem info_parts_s {P : Program} {t : TypeId} {z : Value} {s b : Nat} (h : (P.info? t).map (fun i => (i.zero, i.size, i.bytes)) = some (some z, s, b)) : ∃ i, P.info? t = some i ∧ i.zero = some z ∧ i.size = s ∧ i.bytes = b := by
  cases hi : P.info? t with
  | none => rw [hi] at h; simp at h
  | some i =>
    rw [hi] at h
    simp at h
    exact ⟨i, rfl, h.1, h.2.1, h.2.2⟩
theorem appStr (w : World) (base : Nat) (A : Option Addr) (n c : Nat) (L : List (List UInt8)) (hl : L.length = n) (hown : Own w base 9 1 A n c (stv L)) (x : List UInt8) (hlen : n ≤ 1000000000) (hbase : base ≤ w.heap.size) :
    ∃ A2 c2 w', (Builtin.append_ #[204, 204] 204 #[.slice A n c, .slice (some ⟨w.heap.size, 0, none⟩) 1 1]).run Tryz.prog (w.alloc (.cells #[.string (bs x)] 9)) = .ok (.slice A2 (n + 1) c2) w' ∧ Own w' base 9 1 A2 (n + 1) c2 (stv (L ++ [x])) ∧ Below base w w' := by
  obtain ⟨i0, hi, hz0, hz1, hz2⟩ := info_parts_s Tryz.info_str
  have hr : Rd (w.alloc (.cells #[.string (bs x)] 9)) (w.heap.size + 1) 1 (some ⟨w.heap.size, 0, none⟩) 1 [.string (bs x)] :=
    ⟨rfl, fun _ => ⟨_, _, rfl, by omega, fun j u hu => by rw [(Whole.new w 9 #[.string (bs x)]).cell, Nat.zero_add, ← Array.getElem?_toList]; exact hu⟩⟩
  obtain ⟨A2, c2, w', q, o, g, nr⟩ := run_append_rdn (P := Tryz.prog) (w.alloc (.cells #[.string (bs x)] 9)) 204 204 base 9 i0 (.string ⟨#[]⟩) 1 16 Tryz.underlying204 hi hz0 hz1 hz2 rfl (by decide) (by decide) A n c (stv L) (hown.alloc _) (w.heap.size + 1) _ 1 1 [.string (bs x)] hr (by intro u hu; simp at hu; rw [hu]; rfl) (by omega) (by simp; omega)
  refine ⟨A2, c2, w', q, ?_, ((Below.refl base w).alloc hbase _).grown g (by simp; omega) (fun g hg => (hown.block_lt g (by rw [ownBlock_bl]; exact hg)).1)⟩
  have e : stv (L ++ [x]) = stv L ++ [.string (bs x)] := by simp [stv]
  rw [e]
  exact o
def SplE (w : World) (L : List (List UInt8)) (e : Ending) (w' : World) : Prop := ∃ A c, e = .returned (.slice A L.length c) ∧ Rd w' w'.heap.size 1 A L.length (stv L) ∧ Below w.heap.size w w'
theorem split_any (l : List UInt8) (c : Nat) (hl : l.length ≤ 1000000) (w : World) : Calls Tryz.prog 160 #[.string (bs l), .int .u8 (c : Int)] w (SplE w (splitL c l)) := by
  have C1 := Lib.hid (fun (r : List UInt8) (h : r.length ≤ 1000000) w => cut_any r c h w)
  generalize hN : w.heap.size = N
  have HN := Lib.hid hN
  go_enter Tryz.func160, Tryz.ntmps160
  go_wp2
  go_loopw [0, 5] (fun x y wr => ∃ (O : List (List UInt8)) (r : List UInt8) (n : Nat) (A : Option Addr) (cp : Nat), x = .string (bs r) ∧ O.length = n ∧ n + r.length ≤ l.length ∧ y = .slice A n cp ∧ Own wr N 9 1 A n cp (stv O) ∧ Below N w wr ∧ splitL c l = O ++ splitL c r) (fun x _ _ => szOf x)
  case atStart => exact ⟨[], l, 0, none, 0, rfl, rfl, by omega, rfl, Own.nil_, Below.refl _ _, rfl⟩
  case round =>
    obtain ⟨O, r, n, A, cp, rfl, hO, hr, rfl, hown, hb, hs⟩ := hrel
    have hNr : N ≤ wr.heap.size := by have := hb.size; omega
    have HI := Lib.hid (And.intro hs hb)
    have hsp := splitL_fd c r
    have HL := Lib.hid (fdN_le c r)
    clear hs hb hN
    go_wp2_with fail
    refine (C1.out r (by omega) _).mono ?_; rintro e w1 ⟨rfl, b1⟩
    obtain ⟨A2, c2, w2, q2, o2, b2⟩ := appStr w1 N A n cp O hO (hown.below b1 (Nat.le_refl _)) (r.take (fdN c r)) (by omega) (Nat.le_trans hNr b1.size)
    have Q2 := Lib.hid q2
    have B2 := Lib.hid ((HI.out.2.trans (below_of_le b1 hNr)).trans b2)
    clear b1 b2
    have O2 := Lib.hid o2
    have hO2 := Lib.hid (show (O ++ [r.take (fdN c r)]).length = n + 1 by simp [hO])
    clear q2 o2 hown
    by_cases hk : fdN c r < r.length
    · rw [if_pos hk] at hsp
      rw [decide_eq_true hk]
      have HS := Lib.hid hsp
      clear hsp
      go_wp2_with (at_builtin; refine wpList_want (by rfl) (fun K hK => wp_append_runs _ _ _ _ _ rfl _ _ rfl rfl _ _ Q2.out (hK _ _ ?_)))
      go_wp2
      go_roundw
      case rel => exact ⟨O ++ [r.take (fdN c r)], r.drop (fdN c r + 1), n + 1, A2, c2, rfl, hO2.out, by simp; omega, rfl, O2.out, B2.out, by rw [HI.out.1, HS.out]; simp⟩
      case measure => simp [szOf, bs_size]; omega
    · rw [if_neg hk] at hsp
      rw [decide_eq_false hk]
      have e : splitL c l = O ++ [r.take (fdN c r)] := by
        rw [HI.out.1, hsp, List.take_of_length_le (by omega)]
      have HS := Lib.hid e
      clear hsp e
      go_wp2_with (at_builtin; refine wpList_want (by rfl) (fun K hK => wp_append_runs _ _ _ _ _ rfl _ _ rfl rfl _ _ Q2.out (hK _ _ ?_)))
      go_wp2
      go_ret
      refine ⟨A2, c2, ?_, ?_, ?_⟩
      · rw [HS.out, hO2.out]; rfl
      · rw [HS.out, hO2.out]; exact O2.out.rd
      · rw [HN.out]; exact B2.out
set_option maxHeartbeats 1000000 in
theorem trim_any (l : List UInt8) (hl : l.length ≤ 1000000) (w : World) : Calls Tryz.prog 142 #[.string (bs l)] w fun e w' => e = .returned (.string (bs (trimL l))) ∧ w = w' := by
  have C1 := Lib.hid (fun c w => blank_any c w)
  go_enter Tryz.func142, Tryz.ntmps142
  go_wp2
  go_loop [0] (fun x => ∃ m : List UInt8, x = .string (bs m) ∧ ltr m = ltr l ∧ m.length ≤ l.length) (fun x => szOf x)
  case atStart => exact ⟨l, rfl, rfl, Nat.le_refl _⟩
  case round =>
    obtain ⟨m, rfl, hm, hml⟩ := hrel
    by_cases hm0 : 0 < m.length
    · have v0 := ne_nil_beq hm0
      have v1 : (0 : Int) < (m.length : Int) := by omega
      have v2 : (1 : Int) ≤ (m.length : Int) := by omega
      cases hb : blN (ax m 0) with
      | true =>
        have HT := Lib.hid (show ltr m.tail = ltr m by rw [← List.drop_one]; exact ltr_drop hm0 hb)
        have HM := Lib.hid hm
        clear hm
        go_wp2_with fail
        refine (C1.out (ax m 0) _).mono ?_; rintro e w1 ⟨rfl, rfl⟩
        go_wp2
        go_round
        case rel => exact ⟨m.tail, rfl, HT.out.trans HM.out, by simp; omega⟩
        case measure => simp [szOf, bs_size]; omega
      | false =>
        have HM := Lib.hid (show rtr m = trimL l by unfold trimL; rw [← hm, ltr_stop hm0 hb])
        clear hm
        go_wp2_with fail
        refine (C1.out (ax m 0) _).mono ?_; rintro e w1 ⟨rfl, rfl⟩
        go_wp2
        go_loop [0] (fun x => ∃ r : List UInt8, x = .string (bs r) ∧ rtr r = rtr m ∧ r.length ≤ m.length) (fun x => szOf x)
        case atStart => exact ⟨m, rfl, rfl, Nat.le_refl _⟩
        case round =>
          obtain ⟨r, rfl, hr, hrl⟩ := hrel
          have HR := Lib.hid (show rtr m = rtr r from hr.symm)
          clear hr
          by_cases hr0 : 0 < r.length
          · have u0 := ne_nil_beq hr0
            have u1 : (0 : Int) ≤ (r.length : Int) - 1 := by omega
            have u2 : (r.length : Int) - 1 < (r.length : Int) := by omega
            have u3 : ((r.length : Int) - 1).toNat = r.length - 1 := by omega
            have u4 : IntKind.i64.wrap ((r.length : Int) - 1) = (r.length : Int) - 1 := IntWalk.i64_in _ (by omega)
            have u5 : (r.length : Int) - 1 ≤ (r.length : Int) := by omega
            cases hb : blN (ax r (r.length - 1)) with
            | true =>
              have HT := Lib.hid (rtr_take hr0 hb)
              go_wp2_with fail
              refine (C1.out (ax r (r.length - 1)) _).mono ?_; rintro e w1 ⟨rfl, rfl⟩
              go_wp2
              go_round
              case rel => exact ⟨r.take (r.length - 1), rfl, HT.out.trans HR.out.symm, by simp; omega⟩
              case measure => simp [szOf, bs_size]; omega
            | false =>
              have HT := Lib.hid (rtr_stop hr0 hb)
              go_wp2_with fail
              refine (C1.out (ax r (r.length - 1)) _).mono ?_; rintro e w1 ⟨rfl, rfl⟩
              go_wp2
              go_ret
              exact ⟨by rw [← HM.out, HR.out, HT.out]; rfl, rfl⟩
          · obtain rfl : r = [] := by cases r with | nil => rfl | cons _ _ => simp at hr0
            go_wp2
            go_ret
            exact ⟨by rw [← HM.out, HR.out]; rfl, rfl⟩
    · obtain rfl : m = [] := by cases m with | nil => rfl | cons _ _ => simp at hm0
      have HM := Lib.hid (show rtr [] = trimL l by unfold trimL; rw [← hm]; rfl)
      generalize hmm : ([] : List UInt8) = m at HM
      clear hm
      subst hmm
      go_wp2
      go_loop [0] (fun x => ∃ r : List UInt8, x = .string (bs r) ∧ rtr r = rtr [] ∧ r.length ≤ ([] : List UInt8).length) (fun x => szOf x)
      case atStart => exact ⟨[], rfl, rfl, Nat.le_refl _⟩
      case round =>
        obtain ⟨r, rfl, hr, hrl⟩ := hrel
        have HR := Lib.hid (show rtr [] = rtr r from hr.symm)
        clear hr
        by_cases hr0 : 0 < r.length
        · have u0 := ne_nil_beq hr0
          have u1 : (0 : Int) ≤ (r.length : Int) - 1 := by omega
          have u2 : (r.length : Int) - 1 < (r.length : Int) := by omega
          have u3 : ((r.length : Int) - 1).toNat = r.length - 1 := by omega
          have u4 : IntKind.i64.wrap ((r.length : Int) - 1) = (r.length : Int) - 1 := IntWalk.i64_in _ (by omega)
          have u5 : (r.length : Int) - 1 ≤ (r.length : Int) := by omega
          cases hb : blN (ax r (r.length - 1)) with
          | true =>
            have HT := Lib.hid (rtr_take hr0 hb)
            go_wp2_with fail
            refine (C1.out (ax r (r.length - 1)) _).mono ?_; rintro e w1 ⟨rfl, rfl⟩
            go_wp2
            go_round
            case rel => exact ⟨r.take (r.length - 1), rfl, HT.out.trans HR.out.symm, by simp; omega⟩
            case measure => simp [szOf, bs_size]; omega
          | false =>
            have HT := Lib.hid (rtr_stop hr0 hb)
            go_wp2_with fail
            refine (C1.out (ax r (r.length - 1)) _).mono ?_; rintro e w1 ⟨rfl, rfl⟩
            go_wp2
            go_ret
            exact ⟨by rw [← HM.out, HR.out, HT.out]; rfl, rfl⟩
        · obtain rfl : r = [] := by cases r with | nil => rfl | cons _ _ => simp at hr0
          go_wp2
          go_ret
          exact ⟨by rw [← HM.out]; rfl, rfl⟩
theorem digits_any (l : List UInt8) (hl : l.length ≤ 1000000) (w : World) : Calls Tryz.prog 176 #[.string (bs l)] w fun e w' => e = .returned (.int .i64 (dgN l : Int)) ∧ w = w' := by
  have C1 := Lib.hid (fun c w => digit_any c w)
  go_enter Tryz.func176, Tryz.ntmps176
  go_wp2
  go_loop [3] (fun i => ∃ j : Nat, j ≤ l.length ∧ i = .int .i64 j ∧ ∀ k, k < j → dgT (ax l k) = true) (fun i => l.length - (intOf i).toNat)
  case atStart => exact ⟨0, by omega, rfl, fun k hk => absurd hk (by omega)⟩
  case round =>
    obtain ⟨j, hj, rfl, hk⟩ := hrel
    by_cases hlt : j < l.length
    · cases hb : dgT (ax l j) with
      | true =>
        go_wp2_with fail
        refine (C1.out (ax l j) _).mono ?_; rintro e w1 ⟨rfl, rfl⟩
        go_wp2
        go_round
        case rel => exact ⟨j + 1, by omega, by go_num, fun k hk' => by
          by_cases hkj : k = j
          · subst hkj; exact hb
          · exact hk k (by omega)⟩
        case measure => simp [intOf]; omega
      | false =>
        have HF := Lib.hid (dgN_hit hj hk (fun _ => hb))
        go_wp2_with fail
        refine (C1.out (ax l j) _).mono ?_; rintro e w1 ⟨rfl, rfl⟩
        go_wp2
        go_ret
        exact ⟨by rw [HF.out]; rfl, rfl⟩
    · have HF := Lib.hid (dgN_hit hj hk (fun h => absurd h hlt))
      go_wp2
      go_ret
      exact ⟨by rw [HF.out]; rfl, rfl⟩
/-- What Number tells: a text of digits' number. -/
def NumE (w : World) (l : List UInt8) (e : Ending) (w' : World) : Prop := ∃ n : Int, ∃ b : Bool, e = .returned (.tuple #[.int .i64 n, .bool b]) ∧ (l ≠ [] → l.all digB = true → n = numL l) ∧ w = w'

theorem ascnum_any (l : List UInt8) (hl : l.length ≤ 1000000) (w : World) : Calls Tryz.prog 175 #[.string (bs l)] w (NumE w l) := by
  have C1 := Lib.hid (fun (m : List UInt8) (h : m.length ≤ 1000000) w => digits_any m h w)
  by_cases h0 : 0 < l.length
  · have v0 := ne_nil_beq h0
    have v1 : (0 : Int) < (l.length : Int) := by omega
    have v2 : (1 : Int) ≤ (l.length : Int) := by omega
    by_cases h45 : ax l 0 = 45
    · have hnd : l.all digB = false := all_at digB_n h0 (by rw [h45]; rfl)
      have HE := Lib.hid (show ∀ (n : Int) (b : Bool), NumE w l (.returned (.tuple #[.int .i64 n, .bool b])) w from fun n b => ⟨n, b, rfl, ⟨fun _ h => (by rw [hnd] at h; cases h), rfl⟩⟩)
      have HL := Lib.hid (show l.tail.length ≤ 1000000 by simp; omega)
      clear hnd
      generalize hm : l.tail = m at *
      have hdl := dgN_le m
      by_cases hm0 : 0 < m.length
      · have u0 := ne_nil_beq hm0
        by_cases hd : dgN m < m.length
        · have u1 : decide ((dgN m : Int) < (m.length : Int)) = true := by simp; omega
          go_enter Tryz.func175, Tryz.ntmps175
          go_wp2_with fail
          refine (C1.out m HL.out _).mono ?_; rintro e w1 ⟨rfl, rfl⟩
          go_wp2
          go_ret2
          exact HE.out _ _
        · have u1 : decide ((dgN m : Int) < (m.length : Int)) = false := by simp; omega
          go_enter Tryz.func175, Tryz.ntmps175
          go_wp2_with fail
          refine (C1.out m HL.out _).mono ?_; rintro e w1 ⟨rfl, rfl⟩
          have hm1 := HL.out
          go_wp2
          go_loop [6, 29] (fun x i => ∃ (j n : Nat), j ≤ m.length ∧ i = .int .i64 j ∧ x = .int .i64 n ∧ n ≤ 1099511627776) (fun _ i => m.length - (intOf i).toNat)
          case atStart => exact ⟨0, 0, by omega, rfl, rfl, by omega⟩
          case round =>
            obtain ⟨j, n, hj, rfl, rfl, hn⟩ := hrel
            by_cases hlt : j < m.length
            · have hax := ax_lt m j
              generalize hc : IntKind.u8.wrap ((ax m j : Int) - 48) = c
              have hcb : 0 ≤ c ∧ c < 256 := by rw [← hc, IntKind.wrap_u8]; omega
              obtain ⟨C, rfl⟩ := Int.eq_ofNat_of_zero_le hcb.1
              have y1 : IntKind.i64.wrap ((n : Int) * 10) = ((n * 10 : Nat) : Int) := by rw [IntWalk.i64_in _ (by omega)]; omega
              have y2 : IntKind.i64.wrap (C : Int) = (C : Int) := IntWalk.i64_in _ (by omega)
              have y3 : IntKind.i64.wrap (((n * 10 : Nat) : Int) + (C : Int)) = ((n * 10 + C : Nat) : Int) := by rw [IntWalk.i64_in _ (by omega)]; omega
              clear hax
              go_wp2
              all_goals (go_round)
              case rel => exact ⟨j + 1, min (n * 10 + C) 1099511627776, by omega, by go_num, by go_num, Nat.min_le_right _ _⟩
              case measure => simp [intOf]; omega
            · go_wp2
              go_ret2
              exact HE.out _ _
      · obtain rfl : m = [] := by cases m with | nil => rfl | cons _ _ => simp at hm0
        go_enter Tryz.func175, Tryz.ntmps175
        go_wp2
        go_ret2
        exact HE.out _ _
    · have hdl := dgN_le l
      have t45 : ((ax l 0 : Int) == 45) = false := by simp; omega
      by_cases hd : dgN l < l.length
      · have u1 : decide ((dgN l : Int) < (l.length : Int)) = true := by simp; omega
        have HE := Lib.hid (show NumE w l (.returned (.tuple #[.int .i64 0, .bool false])) w from ⟨0, false, rfl, ⟨fun _ h => (by rw [all_dgN, decide_eq_true_eq] at h; omega), rfl⟩⟩)
        go_enter Tryz.func175, Tryz.ntmps175
        go_wp2_with fail
        refine (C1.out l hl _).mono ?_; rintro e w1 ⟨rfl, rfl⟩
        go_wp2
        go_ret2
        exact HE.out
      · have u1 : decide ((dgN l : Int) < (l.length : Int)) = false := by simp; omega
        have hall : l.all digB = true := by rw [all_dgN, decide_eq_true_eq]; omega
        have HA := Lib.hid (show ∀ j, j < l.length → 48 ≤ ax l j ∧ ax l j ≤ 57 from fun j hj => by
          have := all_get digB_n hall hj
          unfold dgT at this
          simpa using this)
        have HS := Lib.hid (fun j (hj : j < l.length) => numL_step hj)
        have HE := Lib.hid (show NumE w l (.returned (.tuple #[.int .i64 (numL l : Int), .bool true])) w from ⟨numL l, true, rfl, ⟨fun _ _ => rfl, rfl⟩⟩)
        clear hall
        go_enter Tryz.func175, Tryz.ntmps175
        go_wp2_with fail
        refine (C1.out l hl _).mono ?_; rintro e w1 ⟨rfl, rfl⟩
        go_wp2
        go_loop [6, 29] (fun x i => ∃ (j n : Nat), j ≤ l.length ∧ i = .int .i64 j ∧ x = .int .i64 n ∧ n = numL (l.take j)) (fun _ i => l.length - (intOf i).toNat)
        case atStart => exact ⟨0, 0, by omega, rfl, rfl, by simp [numL_nil]⟩
        case round =>
          obtain ⟨j, n, hj, rfl, rfl, hn⟩ := hrel
          have hnb := numL_le (l.take j)
          rw [← hn] at hnb
          by_cases hlt : j < l.length
          · obtain ⟨a1, a2⟩ := HA.out j hlt
            have hst := Lib.hid (HS.out j hlt)
            obtain ⟨C, hC⟩ : ∃ C : Nat, ax l j = C + 48 := ⟨ax l j - 48, by omega⟩
            have HX := Lib.hid (show min (n * 10 + C) 1099511627776 = numL (l.take (j + 1)) by rw [hst.out, ← hn, hC]; simp)
            have y0 : IntKind.u8.wrap (((C + 48 : Nat) : Int) - 48) = (C : Int) := by rw [IntKind.wrap_u8]; omega
            have y0' : IntKind.u8.wrap ((C : Int) + 48 - 48) = (C : Int) := by rw [IntKind.wrap_u8]; omega
            have y1 : IntKind.i64.wrap ((n : Int) * 10) = ((n * 10 : Nat) : Int) := by rw [IntWalk.i64_in _ (by omega)]; omega
            have y2 : IntKind.i64.wrap (C : Int) = (C : Int) := IntWalk.i64_in _ (by omega)
            have y3 : IntKind.i64.wrap (((n * 10 : Nat) : Int) + (C : Int)) = ((n * 10 + C : Nat) : Int) := by rw [IntWalk.i64_in _ (by omega)]; omega
            have hC9 : C ≤ 9 := by omega
            clear a1 a2 hn hst
            go_wp2
            all_goals (go_round)
            case rel => exact ⟨j + 1, min (n * 10 + C) 1099511627776, by omega, by go_num, by go_num, HX.out⟩
            case measure => simp [intOf]; omega
          · have hj' : j = l.length := by omega
            subst hj'
            rw [List.take_length] at hn
            subst hn
            have y4 : IntKind.i64.wrap (numL l : Int) = (numL l : Int) := IntWalk.i64_in _ (by omega)
            go_wp2
            go_ret2
            exact HE.out
  · obtain rfl : l = [] := by cases l with | nil => rfl | cons _ _ => simp at h0
    go_enter Tryz.func175, Tryz.ntmps175
    go_wp2
    go_ret2
    exact ⟨0, false, rfl, fun h => absurd rfl h, rfl⟩
end Go.Proofs.YtpakmeegldgjmaaGreat
/- The document's layer 6 (ascii): Find, Control, Trim, Digits, Number, Text, Split. -/
namespace Go.Proofs.YtpakmeegldgjmaaGreat
open Go.RowKit
set_option linter.unusedVariables false
set_option maxRecDepth 100000
attribute [local go_sem high] idx_bs cut_bs cut_from cut_to
attribute [local go_sem] bs_size bs_list bs_nil_list bs_get bs_cut

theorem rfind_any (l : List UInt8) (c : Nat) (hl : l.length ≤ 1000000) (w : World) : Calls Tryz.prog 104 #[.string (bs l), .int .u8 (c : Int)] w fun e w' => e = .returned (.int .i64 (if fdN c l < l.length then (fdN c l : Int) else -1)) ∧ w = w' := by
  go_enter Tryz.func104, Tryz.ntmps104
  go_wp2
  go_loop [5] (fun i => ∃ j : Nat, j ≤ l.length ∧ i = .int .i64 j ∧ ∀ k, k < j → ax l k ≠ c) (fun i => l.length - (intOf i).toNat)
  case atStart => exact ⟨0, by omega, rfl, fun k hk => absurd hk (by omega)⟩
  case round =>
    obtain ⟨j, hj, rfl, hk⟩ := hrel
    by_cases hlt : j < l.length
    · by_cases hx : ax l j = c
      · have hf := fdN_hit hlt hk hx
        subst hx
        go_wp2
        go_ret
        exact ⟨by first | rfl | (rw [hf, if_pos hlt]; rfl), rfl⟩
      · have t1 : ((ax l j : Int) == (c : Int)) = false := by simp; omega
        go_wp2
        go_round
        case rel => exact ⟨j + 1, by omega, by go_num, fun k hk' => by
          by_cases hkj : k = j
          · subst hkj; exact hx
          · exact hk k (by omega)⟩
        case measure => simp [intOf]; omega
    · have hf := fdN_none (c := c) (l := l) (fun k hk' => hk k (by omega))
      go_wp2
      go_ret
      exact ⟨by first | rfl | (rw [hf, if_neg (Nat.lt_irrefl _)]; rfl), rfl⟩
theorem rcontrol_any (l : List UInt8) (hl : l.length ≤ 1000000) (w : World) : Calls Tryz.prog 133 #[.string (bs l)] w fun e w' => e = .returned (.bool (ctlL l)) ∧ w = w' := by
  go_enter Tryz.func133, Tryz.ntmps133
  go_wp2
  go_loop [3, 4] (fun x i => ∃ (j : Nat) (b : Bool), j ≤ l.length ∧ i = .int .i64 j ∧ x = .bool b ∧ (b = true → ctlL l = true) ∧ (b = false → ∀ k, k < j → ctN (ax l k) = false)) (fun _ i => l.length - (intOf i).toNat)
  case atStart => exact ⟨0, false, by omega, rfl, rfl, fun h => (by cases h), fun _ k hk => absurd hk (by omega)⟩
  case round =>
    obtain ⟨j, b, hj, rfl, rfl, hb1, hb2⟩ := hrel
    by_cases hlt : j < l.length
    · cases b with
      | true =>
        have HB := Lib.hid hb1
        clear hb1 hb2
        go_wp2
        go_round
        case rel => exact ⟨j + 1, true, by omega, by go_num, rfl, HB.out, fun h => by cases h⟩
        case measure => simp [intOf]; omega
      | false =>
        have HB := Lib.hid (hb2 rfl)
        clear hb1 hb2
        cases hx : ctN (ax l j) with
        | true =>
          have HF := Lib.hid (show ctlL l = true from any_at ctlB_q hlt hx)
          unfold ctN at hx
          by_cases h32 : ax l j < 32
          · by_cases h9 : ax l j = 9
            · rw [h9] at hx; simp at hx
            · have t1 : decide ((ax l j : Int) < 32) = true := by simp; omega
              have t2 : ((ax l j : Int) != 9) = true := by simp; omega
              go_wp2
              go_round
              case rel => exact ⟨j + 1, true, by omega, by go_num, by rfl, fun _ => HF.out, fun h => by cases h⟩
              case measure => simp [intOf]; omega
          · have hc : ax l j = 127 := by simp [h32] at hx; exact hx
            go_wp2
            go_round
            case rel => exact ⟨j + 1, true, by omega, by go_num, by rfl, fun _ => HF.out, fun h => by cases h⟩
            case measure => simp [intOf]; omega
        | false =>
          have HF := Lib.hid (show ∀ k, k < j + 1 → ctN (ax l k) = false from fun k hk' => by
            by_cases hkj : k = j
            · subst hkj; exact hx
            · exact HB.out k (by omega))
          unfold ctN at hx
          have h127 : ((ax l j : Int) == 127) = false := by
            simp
            intro e
            have e' : ax l j = 127 := by omega
            rw [e'] at hx
            simp at hx
          by_cases h32 : ax l j < 32
          · have h9 : ax l j = 9 := by simp [h32] at hx; exact hx.1
            go_wp2
            go_round
            case rel => exact ⟨j + 1, false, by omega, by go_num, by rfl, fun h => (by cases h), fun _ => HF.out⟩
            case measure => simp [intOf]; omega
          · have t1 : decide ((ax l j : Int) < 32) = false := by simp; omega
            go_wp2
            go_round
            case rel => exact ⟨j + 1, false, by omega, by go_num, by rfl, fun h => (by cases h), fun _ => HF.out⟩
            case measure => simp [intOf]; omega
    · have hf : b = ctlL l := by
        cases b with
        | true => exact (hb1 rfl).symm
        | false => exact (any_no ctlB_q (fun k hk' => hb2 rfl k (by omega))).symm
      have HF := Lib.hid hf
      clear hf hb1 hb2
      go_wp2
      go_ret
      exact ⟨by rw [← HF.out]; rfl, rfl⟩
theorem rdigits_any (l : List UInt8) (hl : l.length ≤ 1000000) (w : World) : Calls Tryz.prog 170 #[.string (bs l)] w fun e w' => e = .returned (.int .i64 (dgN l : Int)) ∧ w = w' := by
  go_enter Tryz.func170, Tryz.ntmps170
  go_wp2
  go_loop [3, 4] (fun x i => ∃ j n : Nat, j ≤ l.length ∧ i = .int .i64 j ∧ x = .int .i64 n ∧ n ≤ j ∧ (∀ k, k < n → dgT (ax l k) = true) ∧ (n < j → dgT (ax l n) = false)) (fun _ i => l.length - (intOf i).toNat)
  case atStart => exact ⟨0, 0, by omega, rfl, rfl, by omega, fun k hk => absurd hk (by omega), fun h => absurd h (by omega)⟩
  case round =>
    obtain ⟨j, n, hj, rfl, rfl, hn, hk1, hk2⟩ := hrel
    by_cases hlt : j < l.length
    · by_cases hnj : n = j
      · subst hnj
        cases hx : dgT (ax l n) with
        | true =>
          have HF := Lib.hid (show ∀ k, k < n + 1 → dgT (ax l k) = true from fun k hk' => by
            by_cases hkj : k = n
            · subst hkj; exact hx
            · exact hk1 k (by omega))
          clear hk1 hk2
          unfold dgT at hx
          rw [Bool.and_eq_true, decide_eq_true_eq, decide_eq_true_eq] at hx
          have t1 : decide ((48 : Int) ≤ (ax l n : Int)) = true := by simp; omega
          have t2 : decide ((ax l n : Int) ≤ 57) = true := by simp; omega
          go_wp2
          go_round
          case rel => exact ⟨n + 1, n + 1, by omega, by go_num, by go_num, by omega, HF.out, fun h => absurd h (by omega)⟩
          case measure => simp [intOf]; omega
        | false =>
          have HF := Lib.hid (And.intro hk1 hx)
          clear hk1 hk2
          unfold dgT at hx
          by_cases h48 : 48 ≤ ax l n
          · have h57 : ¬ ax l n ≤ 57 := by intro h; rw [decide_eq_true h48, decide_eq_true h] at hx; cases hx
            have t1 : decide ((48 : Int) ≤ (ax l n : Int)) = true := by simp; omega
            have t2 : decide ((ax l n : Int) ≤ 57) = false := by simp; omega
            clear hx
            go_wp2
            go_round
            case rel => exact ⟨n + 1, n, by omega, by go_num, rfl, by omega, HF.out.1, fun _ => HF.out.2⟩
            case measure => simp [intOf]; omega
          · have t1 : decide ((48 : Int) ≤ (ax l n : Int)) = false := by simp; omega
            clear hx
            go_wp2
            go_round
            case rel => exact ⟨n + 1, n, by omega, by go_num, rfl, by omega, HF.out.1, fun _ => HF.out.2⟩
            case measure => simp [intOf]; omega
      · have t1 : ((n : Int) == (j : Int)) = false := by simp; omega
        have HF := Lib.hid (And.intro hk1 (hk2 (by omega)))
        clear hk1 hk2
        go_wp2
        go_round
        case rel => exact ⟨j + 1, n, by omega, by go_num, rfl, by omega, HF.out.1, fun _ => HF.out.2⟩
        case measure => simp [intOf]; omega
    · have HF := Lib.hid (dgN_hit (l := l) (j := n) (by omega) hk1 (fun h => hk2 (by omega)))
      clear hk1 hk2
      go_wp2
      go_ret
      exact ⟨by rw [HF.out]; rfl, rfl⟩
theorem rnumber_dig (l : List UInt8) (hl : l.length ≤ 1000000) (h0 : 0 < l.length) (hd : dgN l = l.length) (w : World) : Calls Tryz.prog 171 #[.string (bs l)] w fun e w' => e = .returned (.tuple #[.int .i64 (numL l : Int), .bool true]) ∧ w = w' := by
  have C1 := Lib.hid (rdigits_any l hl w)
  rw [hd] at C1
  have hall : l.all digB = true := by rw [all_dgN, decide_eq_true_eq]; omega
  have HA := Lib.hid (show ∀ j, j < l.length → 48 ≤ ax l j ∧ ax l j ≤ 57 from fun j hj => by
    have := all_get digB_n hall hj
    unfold dgT at this
    simpa using this)
  have HS := Lib.hid (fun j (hj : j < l.length) => numL_step hj)
  have h45 : ((ax l 0 : Int) == 45) = false := by have := HA.out 0 h0; simp; omega
  have v1 : (0 : Int) < (l.length : Int) := by omega
  have v2 : ((l.length : Int) == 0) = false := by rw [beq_eq_false_iff_ne]; omega
  have v3 : decide ((0 : Int) < (l.length : Int)) = true := by simp; omega
  clear hall hd
  go_enter Tryz.func171, Tryz.ntmps171
  go_wp2_with fail
  refine (C1.out).mono ?_; rintro e w1 ⟨rfl, rfl⟩
  go_wp2
  go_loop [5, 6] (fun x i => ∃ (j n : Nat), j ≤ l.length ∧ i = .int .i64 j ∧ x = .int .i64 n ∧ n = numL (l.take j)) (fun _ i => l.length - (intOf i).toNat)
  case atStart => exact ⟨0, 0, by omega, rfl, rfl, by simp [numL_nil]⟩
  case round =>
    obtain ⟨j, n, hj, rfl, rfl, hn⟩ := hrel
    have hnb := numL_le (l.take j)
    rw [← hn] at hnb
    by_cases hlt : j < l.length
    · obtain ⟨a1, a2⟩ := HA.out j hlt
      have hst := Lib.hid (HS.out j hlt)
      obtain ⟨C, hC⟩ : ∃ C : Nat, ax l j = C + 48 := ⟨ax l j - 48, by omega⟩
      have HX := Lib.hid (show min (n * 10 + C) 1099511627776 = numL (l.take (j + 1)) by rw [hst.out, ← hn, hC]; simp)
      have hC9 : C ≤ 9 := by omega
      have y1 : IntKind.i64.wrap ((n : Int) * 10) = (n : Int) * 10 := IntWalk.i64_in _ (by omega)
      have y2 : IntKind.i64.wrap ((C : Int) + 48) = (C : Int) + 48 := IntWalk.i64_in _ (by omega)
      have y3 : IntKind.i64.wrap ((n : Int) * 10 + ((C : Int) + 48)) = (n : Int) * 10 + ((C : Int) + 48) := IntWalk.i64_in _ (by omega)
      have y4 : IntKind.i64.wrap ((n : Int) * 10 + ((C : Int) + 48) - 48) = ((n * 10 + C : Nat) : Int) := by rw [IntWalk.i64_in _ (by omega)]; omega
      clear a1 a2 hn hst
      by_cases hm : n * 10 + C ≤ 1099511627776
      · have t1 : decide ((1099511627776 : Int) < ((n * 10 + C : Nat) : Int)) = false := by simp; omega
        have t2 : decide ((1099511627776 : Int) < (n : Int) * 10 + (C : Int)) = false := by simp; omega
        go_wp2
        go_round
        case rel => exact ⟨j + 1, n * 10 + C, by omega, by go_num, by go_num, by rw [← HX.out]; omega⟩
        case measure => simp [intOf]; omega
      · have t1 : decide ((1099511627776 : Int) < ((n * 10 + C : Nat) : Int)) = true := by simp; omega
        have t2 : decide ((1099511627776 : Int) < (n : Int) * 10 + (C : Int)) = true := by simp; omega
        go_wp2
        go_round
        case rel => exact ⟨j + 1, 1099511627776, by omega, by go_num, rfl, by rw [← HX.out]; omega⟩
        case measure => simp [intOf]; omega
    · have hj' : j = l.length := by omega
      subst hj'
      rw [List.take_length] at hn
      subst hn
      go_wp2
      go_ret2
      exact ⟨rfl, rfl⟩
theorem rtext_small (n : Nat) (hn : n ≤ 1000) (w : World) : Calls Tryz.prog 172 #[.int .i64 (n : Int)] w fun e w' => e = .returned (.string (bs (digL n))) ∧ Below w.heap.size w w' := by
  have t1 : decide ((n : Int) < 0) = false := by simp
  go_enter Tryz.func172, Tryz.ntmps172
  go_wp2
  go_loopw [0, 3] (fun x y wr => ∃ (m : Nat) (S : List UInt8), x = .int .i64 m ∧ y = .string (bs S) ∧ m ≤ 1000 ∧ S.length + m ≤ 2000 ∧ digL n = digL m ++ S ∧ Below w.heap.size w wr) (fun x _ _ => (intOf x).toNat)
  case atStart => exact ⟨n, [], rfl, rfl, hn, by simp; omega, by simp, Below.refl _ _⟩
  case round =>
    obtain ⟨m, S, rfl, rfl, hm, hS, hd, hb⟩ := hrel
    have HB := Lib.hid hb
    clear hb
    by_cases h9 : 9 < m
    · have t2 : decide ((9 : Int) < (m : Int)) = true := by simp; omega
      have y1 : IntKind.i64.wrap (48 + (m : Int) % 10) = 48 + (m : Int) % 10 := IntWalk.i64_in _ (by omega)
      have y2 : IntKind.u8.wrap (48 + (m : Int) % 10) = 48 + (m : Int) % 10 := by rw [IntKind.wrap_u8]; omega
      have hcv := conv1 (48 + (m : Int) % 10) (48 + m % 10) (by omega) wr
      have hct := fun w => cat_any (P := Tryz.prog) [UInt8.ofNat (48 + m % 10)] S (by simp; omega) w
      have HD := Lib.hid (show digL n = digL (m / 10) ++ (UInt8.ofNat (48 + m % 10) :: S) by rw [hd, digL_big (by omega)]; simp)
      have hsn : ([UInt8.ofNat (48 + m % 10)] ++ S) = UInt8.ofNat (48 + m % 10) :: S := rfl
      rw [hsn] at hct
      generalize hR2 : UInt8.ofNat (48 + m % 10) :: S = S2 at *
      have hS2 : S2.length = S.length + 1 := by rw [← hR2]; rfl
      generalize bs [UInt8.ofNat (48 + m % 10)] = R1 at *
      clear hd hsn hR2
      go_wp2
      go_roundw
      case rel => exact ⟨m / 10, S2, by go_num, rfl, by omega, by omega, HD.out, HB.out.alloc (by have := HB.out.size; omega) _⟩
      case measure => simp [intOf]; omega
    · have t2 : decide ((9 : Int) < (m : Int)) = false := by simp; omega
      have y1 : IntKind.i64.wrap (48 + (m : Int)) = 48 + (m : Int) := IntWalk.i64_in _ (by omega)
      have y2 : IntKind.u8.wrap (48 + (m : Int)) = 48 + (m : Int) := by rw [IntKind.wrap_u8]; omega
      have hcv := conv1 (48 + (m : Int)) (48 + m) (by omega) wr
      have hct := fun w => cat_any (P := Tryz.prog) [UInt8.ofNat (48 + m)] S (by simp; omega) w
      have HD := Lib.hid (show bs (digL n) = bs ([UInt8.ofNat (48 + m)] ++ S) by rw [hd, digL_small (by omega)])
      generalize bs ([UInt8.ofNat (48 + m)] ++ S) = R2 at *
      generalize bs [UInt8.ofNat (48 + m)] = R1 at *
      clear hd
      go_wp2
      go_ret
      exact ⟨by rw [HD.out]; rfl, HB.out.alloc (by have := HB.out.size; omega) _⟩
theorem own_es (w : World) (e : TypeId) (size base : Nat) (h : base ≤ w.heap.size) : Own (w.alloc (.cells #[] e)) base e size (some ⟨w.heap.size, 0, none⟩) 0 0 [] :=
  Own.base_le (b' := base) (base := w.heap.size) ⟨World.ownsRow_lit _ #[] 0 (Nat.le_refl _) (by simp [maxLen]) (by simp), Nat.le_refl _, by simp [maxLen]⟩ h
theorem rsplit_any (l : List UInt8) (c : Nat) (hl : l.length ≤ 1000000) (w : World) : Calls Tryz.prog 155 #[.string (bs l), .int .u8 (c : Int)] w (SplE w (splitL c l)) := by
  generalize hN : w.heap.size = N
  have HN := Lib.hid hN
  have h0' := And.intro (own_es w 9 1 N (by omega)) ((Below.refl N w).alloc (by omega) (.cells #[] 9))
  rw [hN] at h0'
  have h0 := Lib.hid h0'
  clear h0'
  go_enter Tryz.func155, Tryz.ntmps155
  go_wp2
  go_loopw [5, 6, 7] (fun y f i wr => ∃ (O : List (List UInt8)) (n F j : Nat) (A : Option Addr) (cp : Nat), f = .int .i64 F ∧ i = .int .i64 j ∧ F ≤ j ∧ j ≤ l.length ∧ O.length = n ∧ n ≤ F ∧ y = .slice A n cp ∧ Own wr N 9 1 A n cp (stv O) ∧ Below N w wr ∧ splitL c l = O ++ splitL c (l.drop F) ∧ (∀ k, F ≤ k → k < j → ax l k ≠ c)) (fun _ _ i _ => l.length - (intOf i).toNat)
  case atStart => exact ⟨[], 0, 0, 0, _, _, rfl, rfl, by omega, by omega, rfl, by omega, rfl, h0.out.1, h0.out.2, rfl, fun k _ hk => absurd hk (by omega)⟩
  case round =>
    obtain ⟨O, n, F, j, A, cp, rfl, rfl, hFj, hj, hO, hnF, rfl, hown, hb, hs, hk⟩ := hrel
    have hNr : N ≤ wr.heap.size := by have := hb.size; omega
    have HI := Lib.hid (And.intro hs (And.intro hb (And.intro hk hown)))
    clear hs hb hk hN h0 hown
    have i1 : (F : Int) ≤ (j : Int) := by omega
    have i2 : (j : Int) ≤ (l.length : Int) := by omega
    have i3 : (F : Int) ≤ (l.length : Int) := by omega
    by_cases hlt : j < l.length
    · by_cases hx : ax l j = c
      · have hf : fdN c (l.drop F) = j - F := fdN_hit (by simp; omega) (fun i hi => by rw [ax_drop]; exact HI.out.2.2.1 _ (by omega) (by omega)) (by rw [ax_drop, show F + (j - F) = j by omega]; exact hx)
        have hsp := splitL_fd c (l.drop F)
        rw [hf, if_pos (by simp; omega), List.drop_drop, show F + (j - F + 1) = j + 1 by omega] at hsp
        obtain ⟨A2, c2, w2, q2, o2, b2⟩ := appStr wr N A n cp O hO HI.out.2.2.2 ((l.drop F).take (j - F)) (by omega) hNr
        have Q2 := Lib.hid q2
        have HF := Lib.hid (And.intro o2 (And.intro (HI.out.2.1.trans b2) (And.intro (show splitL c l = (O ++ [(l.drop F).take (j - F)]) ++ splitL c (l.drop (j + 1)) by rw [HI.out.1, hsp]; simp) (show (O ++ [(l.drop F).take (j - F)]).length = n + 1 by simp [hO]))))
        clear q2 o2 b2 hsp hf
        go_wp2_with (at_builtin; refine wpList_want (by rfl) (fun K hK => wp_append_runs _ _ _ _ _ rfl _ _ rfl rfl _ _ Q2.out (hK _ _ ?_)))
        go_wp2
        go_roundw
        case rel => exact ⟨O ++ [(l.drop F).take (j - F)], n + 1, j + 1, j + 1, A2, c2, by go_num, by go_num, by omega, by omega, HF.out.2.2.2, by omega, rfl, HF.out.1, HF.out.2.1, HF.out.2.2.1, fun k h1 h2 => absurd h2 (by omega)⟩
        case measure => simp [intOf]; omega
      · have t1 : ((ax l j : Int) == (c : Int)) = false := by simp; omega
        go_wp2
        go_roundw
        case rel => exact ⟨O, n, F, j + 1, A, cp, rfl, by go_num, by omega, by omega, hO, hnF, rfl, HI.out.2.2.2, HI.out.2.1, HI.out.1, fun k h1 h2 => by
          by_cases hkj : k = j
          · subst hkj; exact hx
          · exact HI.out.2.2.1 k h1 (by omega)⟩
        case measure => simp [intOf]; omega
    · have hf : fdN c (l.drop F) = (l.drop F).length := fdN_none (fun i hi => by rw [ax_drop]; simp at hi; exact HI.out.2.2.1 _ (by omega) (by omega))
      have hsp := splitL_fd c (l.drop F)
      rw [hf, if_neg (Nat.lt_irrefl _)] at hsp
      obtain ⟨A2, c2, w2, q2, o2, b2⟩ := appStr wr N A n cp O hO HI.out.2.2.2 (l.drop F) (by omega) hNr
      have Q2 := Lib.hid q2
      have HS := Lib.hid (show splitL c l = O ++ [l.drop F] by rw [HI.out.1, hsp])
      have hO2 := Lib.hid (show (O ++ [l.drop F]).length = n + 1 by simp [hO])
      have HF := Lib.hid (And.intro o2 (HI.out.2.1.trans b2))
      clear q2 o2 b2 hsp hf
      go_wp2_with (at_builtin; refine wpList_want (by rfl) (fun K hK => wp_append_runs _ _ _ _ _ rfl _ _ rfl rfl _ _ Q2.out (hK _ _ ?_)))
      go_wp2
      go_ret
      refine ⟨A2, c2, ?_, ?_, ?_⟩
      · rw [HS.out, hO2.out]; rfl
      · rw [HS.out, hO2.out]; exact HF.out.1.rd
      · rw [HN.out]; exact HF.out.2
/-- Blanks, by cases. -/
theorem blN_cases {c : Nat} (h : blN c = true) : c = 32 ∨ c = 9 := by
  unfold blN at h
  simpa using h
theorem blN_no {c : Nat} (h : blN c = false) : ((c : Int) == 32) = false ∧ ((c : Int) == 9) = false := by
  unfold blN at h
  simp at h
  simp
  omega
set_option maxHeartbeats 1000000 in
theorem rtrim_any (l : List UInt8) (hl : l.length ≤ 1000000) (w : World) : Calls Tryz.prog 134 #[.string (bs l)] w fun e w' => e = .returned (.string (bs (trimL l))) ∧ w = w' := by
  go_enter Tryz.func134, Tryz.ntmps134
  go_wp2
  go_loop [3] (fun x => ∃ i : Nat, x = .int .i64 i ∧ i ≤ l.length ∧ ltr (l.drop i) = ltr l) (fun x => l.length - (intOf x).toNat)
  case atStart => exact ⟨0, rfl, by omega, rfl⟩
  case round =>
    obtain ⟨i, rfl, hi, hm⟩ := hrel
    by_cases hlt : i < l.length
    · have h0 : 0 < (l.drop i).length := by simp; omega
      have ha : ax (l.drop i) 0 = ax l i := ax_drop l i 0
      have t1 : decide ((i : Int) < (l.length : Int)) = true := by simp; omega
      cases hb : blN (ax l i) with
      | true =>
        have HT := Lib.hid (show ltr (l.drop (i + 1)) = ltr l by
          have := ltr_drop h0 (by rw [ha]; exact hb)
          rw [List.drop_drop] at this
          rw [this, hm])
        clear hm h0 ha
        rcases blN_cases hb with hx | hx
        all_goals
          go_wp2
          go_round
          case rel => exact ⟨i + 1, by go_num, by omega, HT.out⟩
          case measure => simp [intOf]; omega
      | false =>
        have HM := Lib.hid (show rtr (l.drop i) = trimL l by unfold trimL; rw [← hm, ltr_stop h0 (by rw [ha]; exact hb)])
        obtain ⟨x1, x2⟩ := blN_no hb
        clear hm h0 ha hb
        go_wp2
        clear x1 x2
        go_loop [4] (fun y => ∃ k : Nat, y = .int .i64 k ∧ i ≤ k ∧ k ≤ l.length ∧ rtr ((l.drop i).take (k - i)) = rtr (l.drop i)) (fun y => (intOf y).toNat)
        case atStart => exact ⟨l.length, rfl, by omega, by omega, by rw [List.take_of_length_le (by simp)]⟩
        case round =>
          obtain ⟨k, rfl, hik, hkl, hr⟩ := hrel
          have HR := Lib.hid hr
          clear hr
          by_cases hlt : i < k
          · have hrl : ((l.drop i).take (k - i)).length = k - i := by simp; omega
            have hra : ax ((l.drop i).take (k - i)) (k - i - 1) = ax l (k - 1) := by
              unfold ax
              rw [List.getD_eq_getElem?_getD, List.getElem?_take, if_pos (by omega), List.getElem?_drop, List.getD_eq_getElem?_getD, show i + (k - i - 1) = k - 1 by omega]
            have hdr : ((l.drop i).take (k - i)).take (k - i - 1) = (l.drop i).take (k - 1 - i) := by rw [List.take_take, show min (k - i - 1) (k - i) = k - 1 - i by omega]
            have u1 : (0 : Int) ≤ (k : Int) - 1 := by omega
            have u2 : (k : Int) - 1 < (l.length : Int) := by omega
            have u3 : ((k : Int) - 1).toNat = k - 1 := by omega
            have u4 : IntKind.i64.wrap ((k : Int) - 1) = (k : Int) - 1 := IntWalk.i64_in _ (by omega)
            have t2 : decide ((i : Int) < (k : Int)) = true := by simp; omega
            cases hb : blN (ax l (k - 1)) with
            | true =>
              have HT := Lib.hid (show rtr ((l.drop i).take (k - 1 - i)) = rtr (l.drop i) by
                rw [← hdr, ← HR.out]
                have := rtr_take (m := (l.drop i).take (k - i)) (by rw [hrl]; omega) (by rw [hrl, hra]; exact hb)
                rw [hrl] at this
                exact this)
              clear hrl hra hdr
              rcases blN_cases hb with hx | hx
              all_goals
                go_wp2
                go_round
                case rel => exact ⟨k - 1, by go_num, by omega, by omega, HT.out⟩
                case measure => simp [intOf]; omega
            | false =>
              have HT := Lib.hid (show (l.drop i).take (k - i) = trimL l by
                rw [← HM.out, ← HR.out]
                exact (rtr_stop (by rw [hrl]; omega) (by rw [hrl, hra]; exact hb)).symm)
              clear hrl hra hdr
              obtain ⟨x1, x2⟩ := blN_no hb
              clear hb
              go_wp2
              go_ret
              exact ⟨by rw [← HT.out]; rfl, rfl⟩
          · have hk : k = i := by omega
            subst hk
            have HT := Lib.hid (show (l.drop k).take (k - k) = trimL l by rw [← HM.out, ← HR.out]; simp; rfl)
            have hkk : k - k = 0 := by omega
            go_wp2
            go_ret
            exact ⟨by rw [← HT.out]; simp, rfl⟩
    · have hil : i = l.length := by omega
      have HM := Lib.hid (show rtr (l.drop i) = trimL l by unfold trimL; rw [← hm, List.drop_of_length_le (by omega)]; rfl)
      clear hm hil
      have t1 : decide ((i : Int) < (l.length : Int)) = false := by simp; omega
      go_wp2
      go_loop [4] (fun y => ∃ k : Nat, y = .int .i64 k ∧ i ≤ k ∧ k ≤ l.length ∧ rtr ((l.drop i).take (k - i)) = rtr (l.drop i)) (fun y => (intOf y).toNat)
      case atStart => exact ⟨l.length, rfl, by omega, by omega, by rw [List.take_of_length_le (by simp)]⟩
      case round =>
        obtain ⟨k, rfl, hik, hkl, hr⟩ := hrel
        have HR := Lib.hid hr
        clear hr
        by_cases hlt : i < k
        · have hrl : ((l.drop i).take (k - i)).length = k - i := by simp; omega
          have hra : ax ((l.drop i).take (k - i)) (k - i - 1) = ax l (k - 1) := by
            unfold ax
            rw [List.getD_eq_getElem?_getD, List.getElem?_take, if_pos (by omega), List.getElem?_drop, List.getD_eq_getElem?_getD, show i + (k - i - 1) = k - 1 by omega]
          have hdr : ((l.drop i).take (k - i)).take (k - i - 1) = (l.drop i).take (k - 1 - i) := by rw [List.take_take, show min (k - i - 1) (k - i) = k - 1 - i by omega]
          have u1 : (0 : Int) ≤ (k : Int) - 1 := by omega
          have u2 : (k : Int) - 1 < (l.length : Int) := by omega
          have u3 : ((k : Int) - 1).toNat = k - 1 := by omega
          have u4 : IntKind.i64.wrap ((k : Int) - 1) = (k : Int) - 1 := IntWalk.i64_in _ (by omega)
          have t2 : decide ((i : Int) < (k : Int)) = true := by simp; omega
          cases hb : blN (ax l (k - 1)) with
          | true =>
            have HT := Lib.hid (show rtr ((l.drop i).take (k - 1 - i)) = rtr (l.drop i) by
              rw [← hdr, ← HR.out]
              have := rtr_take (m := (l.drop i).take (k - i)) (by rw [hrl]; omega) (by rw [hrl, hra]; exact hb)
              rw [hrl] at this
              exact this)
            clear hrl hra hdr
            rcases blN_cases hb with hx | hx
            all_goals
              go_wp2
              go_round
              case rel => exact ⟨k - 1, by go_num, by omega, by omega, HT.out⟩
              case measure => simp [intOf]; omega
          | false =>
            have HT := Lib.hid (show (l.drop i).take (k - i) = trimL l by
              rw [← HM.out, ← HR.out]
              exact (rtr_stop (by rw [hrl]; omega) (by rw [hrl, hra]; exact hb)).symm)
            clear hrl hra hdr
            obtain ⟨x1, x2⟩ := blN_no hb
            clear hb
            go_wp2
            go_ret
            exact ⟨by rw [← HT.out]; rfl, rfl⟩
        · have hk : k = i := by omega
          subst hk
          have HT := Lib.hid (show (l.drop k).take (k - k) = trimL l by rw [← HM.out, ← HR.out]; simp; rfl)
          have hkk : k - k = 0 := by omega
          go_wp2
          go_ret
          exact ⟨by rw [← HT.out]; simp, rfl⟩
end Go.Proofs.YtpakmeegldgjmaaGreat
/- Layer 8 (host): sign, label, bracket; ascii.Lower; and the document's. -/
namespace Go.Proofs.YtpakmeegldgjmaaGreat
open Go.RowKit
set_option linter.unusedVariables false
set_option linter.unusedSimpArgs false
set_option maxRecDepth 100000
attribute [local go_sem high] idx_bs cut_bs cut_from cut_to
attribute [local go_sem] bs_size bs_list bs_nil_list bs_get bs_cut

set_option maxHeartbeats 2000000 in
theorem sign_any (c : Nat) (e : Bool) (w : World) : Calls Tryz.prog 174 #[.int .u8 (c : Int), .bool e] w fun r w' => r = .returned (.bool (sgE c e)) ∧ w = w' := by
  generalize hv : sgE c e = v
  unfold sgE sgN at hv
  by_cases he45 : c = 45
  · have te45 : ((c : Int) == 45) = true := by rw [beq_iff_eq]; omega
    by_cases hg97 : 97 ≤ c
    · omega
    · have tg97 : decide ((97 : Int) ≤ (c : Int)) = false := decide_eq_false (by omega)
      by_cases hl122 : c ≤ 122
      · have tl122 : decide ((c : Int) ≤ 122) = true := decide_eq_true (by omega)
        by_cases hg48 : 48 ≤ c
        · omega
        · have tg48 : decide ((48 : Int) ≤ (c : Int)) = false := decide_eq_false (by omega)
          by_cases hl57 : c ≤ 57
          · have tl57 : decide ((c : Int) ≤ 57) = true := decide_eq_true (by omega)
            by_cases he95 : c = 95
            · omega
            · have ne95 : (c == 95) = false := by rw [beq_eq_false_iff_ne]; exact he95
              have te95 : ((c : Int) == 95) = false := by rw [beq_eq_false_iff_ne]; omega
              cases e
              · have hv2 : v = _ := hv.symm
                simp [he45, hg97, hl122, hg48, hl57, he95, ne95] at hv2
                subst hv2
                clear hv
                go_enter Tryz.func174, Tryz.ntmps174
                go_wp2
                go_ret
                exact ⟨rfl, rfl⟩
              · have hv2 : v = _ := hv.symm
                simp [he45, hg97, hl122, hg48, hl57, he95, ne95] at hv2
                subst hv2
                clear hv
                go_enter Tryz.func174, Tryz.ntmps174
                go_wp2
                go_ret
                exact ⟨rfl, rfl⟩
          · omega
      · omega
  · have ne45 : (c == 45) = false := by rw [beq_eq_false_iff_ne]; exact he45
    have te45 : ((c : Int) == 45) = false := by rw [beq_eq_false_iff_ne]; omega
    by_cases hg97 : 97 ≤ c
    · have tg97 : decide ((97 : Int) ≤ (c : Int)) = true := decide_eq_true (by omega)
      by_cases hl122 : c ≤ 122
      · have tl122 : decide ((c : Int) ≤ 122) = true := decide_eq_true (by omega)
        by_cases hg48 : 48 ≤ c
        · have tg48 : decide ((48 : Int) ≤ (c : Int)) = true := decide_eq_true (by omega)
          by_cases hl57 : c ≤ 57
          · omega
          · have tl57 : decide ((c : Int) ≤ 57) = false := decide_eq_false (by omega)
            by_cases he95 : c = 95
            · omega
            · have ne95 : (c == 95) = false := by rw [beq_eq_false_iff_ne]; exact he95
              have te95 : ((c : Int) == 95) = false := by rw [beq_eq_false_iff_ne]; omega
              have hv2 : v = _ := hv.symm
              simp [he45, hg97, hl122, hg48, hl57, he95, ne45, ne95] at hv2
              subst hv2
              clear hv
              go_enter Tryz.func174, Tryz.ntmps174
              go_wp2
              go_ret
              exact ⟨rfl, rfl⟩
        · omega
      · have tl122 : decide ((c : Int) ≤ 122) = false := decide_eq_false (by omega)
        by_cases hg48 : 48 ≤ c
        · have tg48 : decide ((48 : Int) ≤ (c : Int)) = true := decide_eq_true (by omega)
          by_cases hl57 : c ≤ 57
          · omega
          · have tl57 : decide ((c : Int) ≤ 57) = false := decide_eq_false (by omega)
            by_cases he95 : c = 95
            · omega
            · have ne95 : (c == 95) = false := by rw [beq_eq_false_iff_ne]; exact he95
              have te95 : ((c : Int) == 95) = false := by rw [beq_eq_false_iff_ne]; omega
              have hv2 : v = _ := hv.symm
              simp [he45, hg97, hl122, hg48, hl57, he95, ne45, ne95] at hv2
              subst hv2
              clear hv
              go_enter Tryz.func174, Tryz.ntmps174
              go_wp2
              go_ret
              exact ⟨rfl, rfl⟩
        · omega
    · have tg97 : decide ((97 : Int) ≤ (c : Int)) = false := decide_eq_false (by omega)
      by_cases hl122 : c ≤ 122
      · have tl122 : decide ((c : Int) ≤ 122) = true := decide_eq_true (by omega)
        by_cases hg48 : 48 ≤ c
        · have tg48 : decide ((48 : Int) ≤ (c : Int)) = true := decide_eq_true (by omega)
          by_cases hl57 : c ≤ 57
          · have tl57 : decide ((c : Int) ≤ 57) = true := decide_eq_true (by omega)
            by_cases he95 : c = 95
            · omega
            · have ne95 : (c == 95) = false := by rw [beq_eq_false_iff_ne]; exact he95
              have te95 : ((c : Int) == 95) = false := by rw [beq_eq_false_iff_ne]; omega
              have hv2 : v = _ := hv.symm
              simp [he45, hg97, hl122, hg48, hl57, he95, ne45, ne95] at hv2
              subst hv2
              clear hv
              go_enter Tryz.func174, Tryz.ntmps174
              go_wp2
              go_ret
              exact ⟨rfl, rfl⟩
          · have tl57 : decide ((c : Int) ≤ 57) = false := decide_eq_false (by omega)
            by_cases he95 : c = 95
            · have te95 : ((c : Int) == 95) = true := by rw [beq_iff_eq]; omega
              have hv2 : v = _ := hv.symm
              simp [he45, hg97, hl122, hg48, hl57, he95, ne45] at hv2
              subst hv2
              clear hv
              go_enter Tryz.func174, Tryz.ntmps174
              go_wp2
              go_ret
              exact ⟨rfl, rfl⟩
            · have ne95 : (c == 95) = false := by rw [beq_eq_false_iff_ne]; exact he95
              have te95 : ((c : Int) == 95) = false := by rw [beq_eq_false_iff_ne]; omega
              have hv2 : v = _ := hv.symm
              simp [he45, hg97, hl122, hg48, hl57, he95, ne45, ne95] at hv2
              subst hv2
              clear hv
              go_enter Tryz.func174, Tryz.ntmps174
              go_wp2
              go_ret
              exact ⟨rfl, rfl⟩
        · have tg48 : decide ((48 : Int) ≤ (c : Int)) = false := decide_eq_false (by omega)
          by_cases hl57 : c ≤ 57
          · have tl57 : decide ((c : Int) ≤ 57) = true := decide_eq_true (by omega)
            by_cases he95 : c = 95
            · omega
            · have ne95 : (c == 95) = false := by rw [beq_eq_false_iff_ne]; exact he95
              have te95 : ((c : Int) == 95) = false := by rw [beq_eq_false_iff_ne]; omega
              have hv2 : v = _ := hv.symm
              simp [he45, hg97, hl122, hg48, hl57, he95, ne45, ne95] at hv2
              subst hv2
              clear hv
              go_enter Tryz.func174, Tryz.ntmps174
              go_wp2
              go_ret
              exact ⟨rfl, rfl⟩
          · omega
      · omega
set_option maxHeartbeats 2000000 in
theorem rsign_any (c : Nat) (w : World) : Calls Tryz.prog 173 #[.int .u8 (c : Int)] w fun r w' => r = .returned (.bool (sgN c)) ∧ w = w' := by
  generalize hv : sgN c = v
  unfold sgN at hv
  by_cases hg97 : 97 ≤ c
  · have tg97 : decide ((97 : Int) ≤ (c : Int)) = true := decide_eq_true (by omega)
    by_cases hl122 : c ≤ 122
    · have tl122 : decide ((c : Int) ≤ 122) = true := decide_eq_true (by omega)
      by_cases hg48 : 48 ≤ c
      · have tg48 : decide ((48 : Int) ≤ (c : Int)) = true := decide_eq_true (by omega)
        by_cases hl57 : c ≤ 57
        · omega
        · have tl57 : decide ((c : Int) ≤ 57) = false := decide_eq_false (by omega)
          by_cases he45 : c = 45
          · omega
          · have ne45 : (c == 45) = false := by rw [beq_eq_false_iff_ne]; exact he45
            have te45 : ((c : Int) == 45) = false := by rw [beq_eq_false_iff_ne]; omega
            by_cases he95 : c = 95
            · omega
            · have ne95 : (c == 95) = false := by rw [beq_eq_false_iff_ne]; exact he95
              have te95 : ((c : Int) == 95) = false := by rw [beq_eq_false_iff_ne]; omega
              have hv2 : v = _ := hv.symm
              simp [hg97, hl122, hg48, hl57, he45, he95, ne45, ne95] at hv2
              subst hv2
              clear hv
              go_enter Tryz.func173, Tryz.ntmps173
              go_wp2
              go_ret
              exact ⟨rfl, rfl⟩
      · omega
    · have tl122 : decide ((c : Int) ≤ 122) = false := decide_eq_false (by omega)
      by_cases hg48 : 48 ≤ c
      · have tg48 : decide ((48 : Int) ≤ (c : Int)) = true := decide_eq_true (by omega)
        by_cases hl57 : c ≤ 57
        · omega
        · have tl57 : decide ((c : Int) ≤ 57) = false := decide_eq_false (by omega)
          by_cases he45 : c = 45
          · omega
          · have ne45 : (c == 45) = false := by rw [beq_eq_false_iff_ne]; exact he45
            have te45 : ((c : Int) == 45) = false := by rw [beq_eq_false_iff_ne]; omega
            by_cases he95 : c = 95
            · omega
            · have ne95 : (c == 95) = false := by rw [beq_eq_false_iff_ne]; exact he95
              have te95 : ((c : Int) == 95) = false := by rw [beq_eq_false_iff_ne]; omega
              have hv2 : v = _ := hv.symm
              simp [hg97, hl122, hg48, hl57, he45, he95, ne45, ne95] at hv2
              subst hv2
              clear hv
              go_enter Tryz.func173, Tryz.ntmps173
              go_wp2
              go_ret
              exact ⟨rfl, rfl⟩
      · omega
  · have tg97 : decide ((97 : Int) ≤ (c : Int)) = false := decide_eq_false (by omega)
    by_cases hl122 : c ≤ 122
    · have tl122 : decide ((c : Int) ≤ 122) = true := decide_eq_true (by omega)
      by_cases hg48 : 48 ≤ c
      · have tg48 : decide ((48 : Int) ≤ (c : Int)) = true := decide_eq_true (by omega)
        by_cases hl57 : c ≤ 57
        · have tl57 : decide ((c : Int) ≤ 57) = true := decide_eq_true (by omega)
          by_cases he45 : c = 45
          · omega
          · have ne45 : (c == 45) = false := by rw [beq_eq_false_iff_ne]; exact he45
            have te45 : ((c : Int) == 45) = false := by rw [beq_eq_false_iff_ne]; omega
            by_cases he95 : c = 95
            · omega
            · have ne95 : (c == 95) = false := by rw [beq_eq_false_iff_ne]; exact he95
              have te95 : ((c : Int) == 95) = false := by rw [beq_eq_false_iff_ne]; omega
              have hv2 : v = _ := hv.symm
              simp [hg97, hl122, hg48, hl57, he45, he95, ne45, ne95] at hv2
              subst hv2
              clear hv
              go_enter Tryz.func173, Tryz.ntmps173
              go_wp2
              go_ret
              exact ⟨rfl, rfl⟩
        · have tl57 : decide ((c : Int) ≤ 57) = false := decide_eq_false (by omega)
          by_cases he45 : c = 45
          · omega
          · have ne45 : (c == 45) = false := by rw [beq_eq_false_iff_ne]; exact he45
            have te45 : ((c : Int) == 45) = false := by rw [beq_eq_false_iff_ne]; omega
            by_cases he95 : c = 95
            · have te95 : ((c : Int) == 95) = true := by rw [beq_iff_eq]; omega
              have hv2 : v = _ := hv.symm
              simp [hg97, hl122, hg48, hl57, he45, he95, ne45] at hv2
              subst hv2
              clear hv
              go_enter Tryz.func173, Tryz.ntmps173
              go_wp2
              go_ret
              exact ⟨rfl, rfl⟩
            · have ne95 : (c == 95) = false := by rw [beq_eq_false_iff_ne]; exact he95
              have te95 : ((c : Int) == 95) = false := by rw [beq_eq_false_iff_ne]; omega
              have hv2 : v = _ := hv.symm
              simp [hg97, hl122, hg48, hl57, he45, he95, ne45, ne95] at hv2
              subst hv2
              clear hv
              go_enter Tryz.func173, Tryz.ntmps173
              go_wp2
              go_ret
              exact ⟨rfl, rfl⟩
      · have tg48 : decide ((48 : Int) ≤ (c : Int)) = false := decide_eq_false (by omega)
        by_cases hl57 : c ≤ 57
        · have tl57 : decide ((c : Int) ≤ 57) = true := decide_eq_true (by omega)
          by_cases he45 : c = 45
          · have te45 : ((c : Int) == 45) = true := by rw [beq_iff_eq]; omega
            by_cases he95 : c = 95
            · omega
            · have ne95 : (c == 95) = false := by rw [beq_eq_false_iff_ne]; exact he95
              have te95 : ((c : Int) == 95) = false := by rw [beq_eq_false_iff_ne]; omega
              have hv2 : v = _ := hv.symm
              simp [hg97, hl122, hg48, hl57, he45, he95, ne95] at hv2
              subst hv2
              clear hv
              go_enter Tryz.func173, Tryz.ntmps173
              go_wp2
              go_ret
              exact ⟨rfl, rfl⟩
          · have ne45 : (c == 45) = false := by rw [beq_eq_false_iff_ne]; exact he45
            have te45 : ((c : Int) == 45) = false := by rw [beq_eq_false_iff_ne]; omega
            by_cases he95 : c = 95
            · omega
            · have ne95 : (c == 95) = false := by rw [beq_eq_false_iff_ne]; exact he95
              have te95 : ((c : Int) == 95) = false := by rw [beq_eq_false_iff_ne]; omega
              have hv2 : v = _ := hv.symm
              simp [hg97, hl122, hg48, hl57, he45, he95, ne45, ne95] at hv2
              subst hv2
              clear hv
              go_enter Tryz.func173, Tryz.ntmps173
              go_wp2
              go_ret
              exact ⟨rfl, rfl⟩
        · omega
    · omega
theorem label_any (l : List UInt8) (hl : l.length ≤ 1000000) (w : World) : Calls Tryz.prog 161 #[.string (bs l)] w fun r w' => r = .returned (.bool (labelB l)) ∧ w = w' := by
  have C1 := Lib.hid (fun c e w => sign_any c e w)
  by_cases h0 : 0 < l.length
  · have v0 := ne_nil_beq h0
    by_cases h63 : l.length ≤ 63
    · have v1 : decide ((63 : Int) < (l.length : Int)) = false := decide_eq_false (by omega)
      go_enter Tryz.func161, Tryz.ntmps161
      go_wp2
      go_loop [13] (fun i => ∃ j : Nat, j ≤ l.length ∧ i = .int .i64 j ∧ ∀ k, k < j → sgE (ax l k) (decide (k = 0) || decide (k = l.length - 1)) = true) (fun i => l.length - (intOf i).toNat)
      case atStart => exact ⟨0, by omega, rfl, fun k hk => absurd hk (by omega)⟩
      case round =>
        obtain ⟨j, hj, rfl, hk⟩ := hrel
        have HK := Lib.hid hk
        clear hk
        by_cases hlt : j < l.length
        · generalize he : (decide (j = 0) || decide (j = l.length - 1)) = e
          have y4 : IntKind.i64.wrap ((l.length : Int) - 1) = (l.length : Int) - 1 := IntWalk.i64_in _ (by omega)
          cases hx : sgE (ax l j) e with
          | true =>
            have HF := Lib.hid (show ∀ k, k < j + 1 → sgE (ax l k) (decide (k = 0) || decide (k = l.length - 1)) = true from fun k hk' => by
              by_cases hkj : k = j
              · subst hkj; rw [he]; exact hx
              · exact HK.out k (by omega))
            have HX := Lib.hid hx
            by_cases hj0 : j = 0
            · have ej : e = true := by rw [← he, decide_eq_true hj0]; rfl
              subst ej
              subst hj0
              clear he hx
              go_wp2_with fail
              refine (C1.out (ax l 0) true _).mono ?_; rintro r w1 ⟨rfl, rfl⟩
              rw [HX.out]
              go_wp2
              go_round
              case rel => exact ⟨1, by omega, by go_num, HF.out⟩
              case measure => simp [intOf]; omega
            · have u1 : ((j : Int) == 0) = false := by rw [beq_eq_false_iff_ne]; omega
              have u2 : ((j : Int) == (l.length : Int) - 1) = e := by
                rw [← he, decide_eq_false hj0, Bool.false_or]
                by_cases h : j = l.length - 1
                · rw [decide_eq_true h, beq_iff_eq]; omega
                · rw [decide_eq_false h, beq_eq_false_iff_ne]; omega
              clear he hx
              go_wp2_with fail
              refine (C1.out (ax l j) e _).mono ?_; rintro r w1 ⟨rfl, rfl⟩
              rw [HX.out]
              go_wp2
              go_round
              case rel => exact ⟨j + 1, by omega, by go_num, HF.out⟩
              case measure => simp [intOf]; omega
          | false =>
            have HF := Lib.hid (label_at hlt (by rw [he]; exact hx))
            have HX := Lib.hid hx
            by_cases hj0 : j = 0
            · have ej : e = true := by rw [← he, decide_eq_true hj0]; rfl
              subst ej
              subst hj0
              clear he hx
              go_wp2_with fail
              refine (C1.out (ax l 0) true _).mono ?_; rintro r w1 ⟨rfl, rfl⟩
              rw [HX.out]
              go_wp2
              go_ret
              exact ⟨by rw [HF.out]; rfl, rfl⟩
            · have u1 : ((j : Int) == 0) = false := by rw [beq_eq_false_iff_ne]; omega
              have u2 : ((j : Int) == (l.length : Int) - 1) = e := by
                rw [← he, decide_eq_false hj0, Bool.false_or]
                by_cases h : j = l.length - 1
                · rw [decide_eq_true h, beq_iff_eq]; omega
                · rw [decide_eq_false h, beq_eq_false_iff_ne]; omega
              clear he hx
              go_wp2_with fail
              refine (C1.out (ax l j) e _).mono ?_; rintro r w1 ⟨rfl, rfl⟩
              rw [HX.out]
              go_wp2
              go_ret
              exact ⟨by rw [HF.out]; rfl, rfl⟩
        · have HF := Lib.hid (label_yes (by omega) h63 (fun k hk' => HK.out k (by omega)))
          go_wp2
          go_ret
          exact ⟨by rw [HF.out]; rfl, rfl⟩
    · have v1 : decide ((63 : Int) < (l.length : Int)) = true := decide_eq_true (by omega)
      have HF := Lib.hid (show labelB l = false by rw [label_ax, decide_eq_false (by omega : ¬ l.length ≤ 63)]; simp)
      go_enter Tryz.func161, Tryz.ntmps161
      go_wp2
      go_ret
      exact ⟨by rw [HF.out]; rfl, rfl⟩
  · obtain rfl : l = [] := by cases l with | nil => rfl | cons _ _ => simp at h0
    go_enter Tryz.func161, Tryz.ntmps161
    go_wp2
    go_ret
    exact ⟨rfl, rfl⟩
theorem rlabel_any (l : List UInt8) (hl : l.length ≤ 1000000) (w : World) : Calls Tryz.prog 156 #[.string (bs l)] w fun r w' => r = .returned (.bool (labelB l)) ∧ w = w' := by
  have C1 := Lib.hid (fun c w => rsign_any c w)
  have HL := Lib.hid (label_ax l)
  by_cases h0 : 0 < l.length
  · have v0 : decide ((l.length : Int) < 1) = false := decide_eq_false (by omega)
    have v0' : (0 : Int) < (l.length : Int) := by omega
    have y4 : IntKind.i64.wrap ((l.length : Int) - 1) = (l.length : Int) - 1 := IntWalk.i64_in _ (by omega)
    by_cases h63 : l.length ≤ 63
    · have v1 : decide ((63 : Int) < (l.length : Int)) = false := decide_eq_false (by omega)
      by_cases ha : ax l 0 = 45
      · have HF := Lib.hid (show labelB l = false by rw [HL.out, ha]; simp)
        go_enter Tryz.func156, Tryz.ntmps156
        go_wp2
        go_ret
        exact ⟨by rw [HF.out]; rfl, rfl⟩
      · have v2 : ((ax l 0 : Int) == 45) = false := by rw [beq_eq_false_iff_ne]; omega
        by_cases hb : ax l (l.length - 1) = 45
        · have HF := Lib.hid (show labelB l = false by rw [HL.out, hb]; simp)
          go_enter Tryz.func156, Tryz.ntmps156
          go_wp2
          go_ret
          exact ⟨by rw [HF.out]; rfl, rfl⟩
        · have v3 : ((ax l (l.length - 1) : Int) == 45) = false := by rw [beq_eq_false_iff_ne]; omega
          have HG := Lib.hid (show labelB l = l.all signB by
            rw [HL.out, decide_eq_true (by omega : 1 ≤ l.length), decide_eq_true h63]
            have e1 : (ax l 0 == 45) = false := by rw [beq_eq_false_iff_ne]; exact ha
            have e2 : (ax l (l.length - 1) == 45) = false := by rw [beq_eq_false_iff_ne]; exact hb
            rw [e1, e2]
            simp)
          clear HL ha hb
          go_enter Tryz.func156, Tryz.ntmps156
          go_wp2
          go_loop [3] (fun i => ∃ j : Nat, j ≤ l.length ∧ i = .int .i64 j ∧ ∀ k, k < j → sgN (ax l k) = true) (fun i => l.length - (intOf i).toNat)
          case atStart => exact ⟨0, by omega, rfl, fun k hk => absurd hk (by omega)⟩
          case round =>
            obtain ⟨j, hj, rfl, hk⟩ := hrel
            by_cases hlt : j < l.length
            · cases hx : sgN (ax l j) with
              | true =>
                go_wp2_with fail
                refine (C1.out (ax l j) _).mono ?_; rintro r w1 ⟨rfl, rfl⟩
                go_wp2
                go_round
                case rel => exact ⟨j + 1, by omega, by go_num, fun k hk' => by
                  by_cases hkj : k = j
                  · subst hkj; exact hx
                  · exact hk k (by omega)⟩
                case measure => simp [intOf]; omega
              | false =>
                have HF := Lib.hid (show labelB l = false by rw [HG.out]; exact all_at signB_n hlt hx)
                go_wp2_with fail
                refine (C1.out (ax l j) _).mono ?_; rintro r w1 ⟨rfl, rfl⟩
                go_wp2
                go_ret
                exact ⟨by rw [HF.out]; rfl, rfl⟩
            · have HF := Lib.hid (show labelB l = true by rw [HG.out]; exact all_yes signB_n (fun k hk' => hk k (by omega)))
              go_wp2
              go_ret
              exact ⟨by rw [HF.out]; rfl, rfl⟩
    · have v1 : decide ((63 : Int) < (l.length : Int)) = true := decide_eq_true (by omega)
      have HF := Lib.hid (show labelB l = false by rw [HL.out, decide_eq_false (by omega : ¬ l.length ≤ 63)]; simp)
      go_enter Tryz.func156, Tryz.ntmps156
      go_wp2
      go_ret
      exact ⟨by rw [HF.out]; rfl, rfl⟩
  · obtain rfl : l = [] := by cases l with | nil => rfl | cons _ _ => simp at h0
    go_enter Tryz.func156, Tryz.ntmps156
    go_wp2
    go_ret
    exact ⟨rfl, rfl⟩
end Go.Proofs.YtpakmeegldgjmaaGreat
/- Layer 8 (host): bracket; ascii.Lower; and the document's bracket. -/
namespace Go.Proofs.YtpakmeegldgjmaaGreat
open Go.RowKit
set_option linter.unusedVariables false
set_option linter.unusedSimpArgs false
set_option maxRecDepth 100000
attribute [local go_sem high] idx_bs cut_bs cut_from cut_to
attribute [local go_sem] bs_size bs_list bs_nil_list bs_get bs_cut

/-- '[]byte(s)': the new row, its room, its mark. -/
def capOf (w : World) (m : List UInt8) : Nat := grownCap w m.length 0 5
def rowOf (w : World) (m : List UInt8) : Array Value := bytesRow (bs m) (capOf w m)
theorem str_conv (m : List UInt8) (w : World) : (convert 9 24 (.string (bs m))).run Tryz.prog w = .ok (.slice (some ⟨w.heap.size, 0, none⟩) m.length (capOf w m)) (w.drew.alloc (.cells (rowOf w m) 5 ((rowOf w m).size, (rowOf w m).size + 1))) :=
  run_bytes_of_string w 9 24 5 (bs m) Tryz.underlying9 Tryz.underlying24 Tryz.underlying5
theorem rowOf_at (w : World) (m : List UInt8) (j : Nat) (hj : j < m.length) : (rowOf w m)[j]? = some (.int .u8 (ax m j : Int)) := by
  have h := bytesRow_at (bs m) (capOf w m) j (by simpa [bs] using hj)
  unfold rowOf
  rw [h, ax_el hj]
  simp [bs]
theorem rowOf_size (w : World) (m : List UInt8) : m.length ≤ (rowOf w m).size := by
  unfold rowOf bytesRow
  simp [bs]
/-- A block of bytes, whatever its mark. -/
def Mw (w : World) (g : Nat) (C : Array Value) : Prop := w.heap[g]? = some (.cells C 5 (C.size, C.size + 1))
theorem Mw.new (w : World) (m : List UInt8) : Mw (w.drew.alloc (.cells (rowOf w m) 5 ((rowOf w m).size, (rowOf w m).size + 1))) w.heap.size (rowOf w m) := heap_alloc_new w.drew _
theorem Mw.cell {w : World} {g : Nat} {C : Array Value} (h : Mw w g C) (i : Nat) : w.cell? ⟨g, i, none⟩ = C[i]? := cell_of_row w g i C _ _ h
theorem Mw.free {w : World} {g : Nat} {C : Array Value} (h : Mw w g C) (i : Nat) (hi : i < C.size) : w.frozen? ⟨g, i, none⟩ = false := by
  unfold Mw at h
  simp [World.frozen?, h]
  omega
theorem Mw.set_ {w : World} {g : Nat} {C : Array Value} (h : Mw w g C) (i : Nat) (u : Value) : Mw (w.setCell ⟨g, i, none⟩ u) g (C.setIfInBounds i u) := by
  unfold Mw at h ⊢
  simp [World.setCell, Array.getElem?_modify, h]
theorem Mw.below {w w' : World} {g B : Nat} {C : Array Value} (h : Mw w g C) (hb : Below B w w') (hg : g < B) : Mw w' g C := (hb.block g hg).trans h
/-- The bytes of a text that is being made small. -/
def LowR (l : List UInt8) (j : Nat) (C : Array Value) : Prop := l.length ≤ C.size ∧ ∀ k, k < l.length → C[k]? = some (.int .u8 ((if k < j then lowN (ax l k) else ax l k : Nat) : Int))
theorem LowR.step {l : List UInt8} {j : Nat} {C : Array Value} (h : LowR l j C) (hj : j < l.length) : LowR l (j + 1) (C.setIfInBounds j (.int .u8 (lowN (ax l j) : Int))) := by
  refine ⟨by simp; exact h.1, fun k hk => ?_⟩
  rw [Array.getElem?_setIfInBounds]
  by_cases hkj : j = k
  · subst hkj
    rw [if_pos rfl, if_pos (by have := h.1; omega), if_pos (by omega)]
  · rw [if_neg hkj, h.2 k hk]
    by_cases hlt : k < j
    · rw [if_pos hlt, if_pos (by omega)]
    · rw [if_neg hlt, if_neg (by omega)]
theorem low_any (l : List UInt8) (hl : l.length ≤ 1000000) (w : World) : Calls Tryz.prog 138 #[.string (bs l)] w fun r w' => r = .returned (.string (bs (lowL l))) ∧ Below w.heap.size w w' := by
  have C1 := Lib.hid (fun c hc w => lower_any c hc w)
  have hcv := str_conv l w
  have hM := Mw.new w l
  have hL : LowR l 0 (rowOf w l) := ⟨rowOf_size w l, fun k hk => by rw [if_neg (by omega)]; exact rowOf_at w l k hk⟩
  have hB : Below w.heap.size w (w.drew.alloc (.cells (rowOf w l) 5 ((rowOf w l).size, (rowOf w l).size + 1))) := (Below.refl _ _).drew.alloc (Nat.le_refl _) _
  generalize w.drew.alloc (.cells (rowOf w l) 5 ((rowOf w l).size, (rowOf w l).size + 1)) = W1 at *
  generalize rowOf w l = C0 at *
  generalize capOf w l = cp at *
  generalize hN : w.heap.size = N at *
  have H0 := Lib.hid (And.intro hM (And.intro hL hB))
  clear hM hL hB hN
  go_enter Tryz.func138, Tryz.ntmps138
  go_wp2
  go_loopw [9] (fun i wr => ∃ (j : Nat) (C : Array Value), j ≤ l.length ∧ i = .int .i64 j ∧ Mw wr N C ∧ LowR l j C ∧ Below N w wr) (fun i _ => l.length - (intOf i).toNat)
  case atStart => exact ⟨0, C0, by omega, rfl, H0.out.1, H0.out.2.1, H0.out.2.2⟩
  case round =>
    obtain ⟨j, C, hj, rfl, hM, hL, hB⟩ := hrel
    by_cases hlt : j < l.length
    · have hc : wr.cell? ⟨N, j, none⟩ = some (.int .u8 (ax l j : Int)) := by rw [hM.cell, hL.2 j hlt, if_neg (Nat.lt_irrefl _)]
      have hf : wr.frozen? ⟨N, j, none⟩ = false := hM.free j (by have := hL.1; omega)
      have HX := Lib.hid (And.intro (hM.set_ j (.int .u8 (lowN (ax l j) : Int))) (And.intro (hL.step hlt) (show Below N w (wr.setCell ⟨N, j, none⟩ (.int .u8 (lowN (ax l j) : Int))) from hB.setCell (Nat.le_refl _) _)))
      clear hM hL hB H0
      go_wp2_with fail
      refine (C1.out (ax l j) (ax_lt l j) _).mono ?_; rintro r w1 ⟨rfl, rfl⟩
      go_wp2
      go_roundw
      case rel => exact ⟨j + 1, _, by omega, by go_num, HX.out.1, HX.out.2.1, HX.out.2.2⟩
      case measure => simp [intOf]; omega
    · have hj' : j = l.length := by omega
      subst hj'
      have hcv2 : (convert 24 9 (.slice (some ⟨N, 0, none⟩) l.length cp)).run Tryz.prog wr = .ok (.string (bs (lowL l))) wr := by
        have h := run_convert_bytes_back (P := Tryz.prog) wr 24 9 5 ⟨N, 0, none⟩ cp (lowL l) Tryz.underlying24 Tryz.underlying5 Tryz.underlying9 (fun k hk => by
          rw [lowL_len] at hk
          have e0 : (⟨N, 0, none⟩ : Addr).add k = ⟨N, k, none⟩ := by by_cases h : k = 0 <;> simp [Addr.add, h]
          rw [e0, hM.cell, hL.2 k hk, if_pos hk, ← lowN_ax l k hk, ax_el])
        rw [lowL_len] at h
        exact h
      have HX := Lib.hid hB
      clear hM hL hB H0
      go_wp2
      go_ret
      exact ⟨rfl, HX.out⟩
set_option maxHeartbeats 2000000 in
theorem bracket_any (l : List UInt8) (hl : l.length ≤ 1000000) (w : World) : Calls Tryz.prog 163 #[.string (bs l)] w fun r w' => r = .returned (.bool (brackB l)) ∧ Below w.heap.size w w' := by
  have HL := Lib.hid (brack_ax l)
  by_cases h4 : 4 ≤ l.length
  · have v0 : decide ((l.length : Int) < 4) = false := decide_eq_false (by omega)
    have v0' : (0 : Int) < (l.length : Int) := by omega
    have y4 : IntKind.i64.wrap ((l.length : Int) - 1) = (l.length : Int) - 1 := IntWalk.i64_in _ (by omega)
    by_cases h47 : l.length ≤ 47
    · have v1 : decide ((47 : Int) < (l.length : Int)) = false := decide_eq_false (by omega)
      by_cases ha : ax l 0 = 91
      · by_cases hb : ax l (l.length - 1) = 93
        · have HG := Lib.hid (show brackB l = ((l.drop 1).take (l.length - 2)).all hexB by rw [HL.out, decide_eq_true h4, decide_eq_true h47, ha, hb]; simp)
          have e1 : l.tail = l.drop 1 := by simp
          have z1 : (1 : Int) ≤ (l.length : Int) - 1 := by omega
          have z2 : (l.length : Int) - 1 ≤ (l.length : Int) := by omega
          have z3 : l.length - 1 - 1 = l.length - 2 := by omega
          clear HL
          generalize hm : (l.drop 1).take (l.length - 2) = m at *
          have hm2 : l.tail.take (l.length - 2) = m := by rw [e1]; exact hm
          clear e1
          have hcv := str_conv m w
          have hM := Mw.new w m
          have hR := fun k (hk : k < m.length) => rowOf_at w m k hk
          have hB : Below w.heap.size w (w.drew.alloc (.cells (rowOf w m) 5 ((rowOf w m).size, (rowOf w m).size + 1))) := (Below.refl _ _).drew.alloc (Nat.le_refl _) _
          generalize w.drew.alloc (.cells (rowOf w m) 5 ((rowOf w m).size, (rowOf w m).size + 1)) = W1 at *
          have hcell : ∀ k, k < m.length → W1.cell? ⟨w.heap.size, k, none⟩ = some (.int .u8 (ax m k : Int)) := fun k hk => by rw [hM.cell]; exact hR k hk
          have HB := Lib.hid (And.intro hB hcell)
          have hmb : m.length ≤ 47 := by rw [← hm]; simp; omega
          clear hM hR hB hcell
          generalize capOf w m = cp at *
          generalize w.heap.size = N at *
          go_enter Tryz.func163, Tryz.ntmps163
          go_wp2
          go_loop [33] (fun i => ∃ j : Nat, j ≤ m.length ∧ i = .int .i64 j ∧ ∀ k, k < j → hxN (ax m k) = true) (fun i => m.length - (intOf i).toNat)
          case atStart => exact ⟨0, by omega, rfl, fun k hk => absurd hk (by omega)⟩
          case round =>
            obtain ⟨j, hj, rfl, hk⟩ := hrel
            have HK := Lib.hid hk
            clear hk hm2 z3
            by_cases hlt : j < m.length
            · have hc := HB.out.2 j hlt
              by_cases hg48 : 48 ≤ ax m j
              · have tg48 : decide ((48 : Int) ≤ (ax m j : Int)) = true := decide_eq_true (by omega)
                by_cases hl57 : ax m j ≤ 57
                · have tl57 : decide ((ax m j : Int) ≤ 57) = true := decide_eq_true (by omega)
                  by_cases hg97 : 97 ≤ ax m j
                  · omega
                  · have tg97 : decide ((97 : Int) ≤ (ax m j : Int)) = false := decide_eq_false (by omega)
                    by_cases hl102 : ax m j ≤ 102
                    · have tl102 : decide ((ax m j : Int) ≤ 102) = true := decide_eq_true (by omega)
                      by_cases he58 : ax m j = 58
                      · omega
                      · have ne58 : (ax m j == 58) = false := by rw [beq_eq_false_iff_ne]; exact he58
                        have te58 : ((ax m j : Int) == 58) = false := by rw [beq_eq_false_iff_ne]; omega
                        by_cases he46 : ax m j = 46
                        · omega
                        · have ne46 : (ax m j == 46) = false := by rw [beq_eq_false_iff_ne]; exact he46
                          have te46 : ((ax m j : Int) == 46) = false := by rw [beq_eq_false_iff_ne]; omega
                          have hq : hxN (ax m j) = true := by unfold hxN; simp [hg48, hl57, hg97, hl102, he58, he46, ne58, ne46]
                          have HF := Lib.hid (show ∀ k, k < j + 1 → hxN (ax m k) = true from fun k hk' => by
                            by_cases hkj : k = j
                            · subst hkj; exact hq
                            · exact HK.out k (by omega))
                          clear hq
                          go_wp2
                          go_round
                          case rel => exact ⟨j + 1, by omega, by go_num, HF.out⟩
                          case measure => simp [intOf]; omega
                    · omega
                · have tl57 : decide ((ax m j : Int) ≤ 57) = false := decide_eq_false (by omega)
                  by_cases hg97 : 97 ≤ ax m j
                  · have tg97 : decide ((97 : Int) ≤ (ax m j : Int)) = true := decide_eq_true (by omega)
                    by_cases hl102 : ax m j ≤ 102
                    · have tl102 : decide ((ax m j : Int) ≤ 102) = true := decide_eq_true (by omega)
                      by_cases he58 : ax m j = 58
                      · omega
                      · have ne58 : (ax m j == 58) = false := by rw [beq_eq_false_iff_ne]; exact he58
                        have te58 : ((ax m j : Int) == 58) = false := by rw [beq_eq_false_iff_ne]; omega
                        by_cases he46 : ax m j = 46
                        · omega
                        · have ne46 : (ax m j == 46) = false := by rw [beq_eq_false_iff_ne]; exact he46
                          have te46 : ((ax m j : Int) == 46) = false := by rw [beq_eq_false_iff_ne]; omega
                          have hq : hxN (ax m j) = true := by unfold hxN; simp [hg48, hl57, hg97, hl102, he58, he46, ne58, ne46]
                          have HF := Lib.hid (show ∀ k, k < j + 1 → hxN (ax m k) = true from fun k hk' => by
                            by_cases hkj : k = j
                            · subst hkj; exact hq
                            · exact HK.out k (by omega))
                          clear hq
                          go_wp2
                          go_round
                          case rel => exact ⟨j + 1, by omega, by go_num, HF.out⟩
                          case measure => simp [intOf]; omega
                    · have tl102 : decide ((ax m j : Int) ≤ 102) = false := decide_eq_false (by omega)
                      by_cases he58 : ax m j = 58
                      · omega
                      · have ne58 : (ax m j == 58) = false := by rw [beq_eq_false_iff_ne]; exact he58
                        have te58 : ((ax m j : Int) == 58) = false := by rw [beq_eq_false_iff_ne]; omega
                        by_cases he46 : ax m j = 46
                        · omega
                        · have ne46 : (ax m j == 46) = false := by rw [beq_eq_false_iff_ne]; exact he46
                          have te46 : ((ax m j : Int) == 46) = false := by rw [beq_eq_false_iff_ne]; omega
                          have hq : hxN (ax m j) = false := by unfold hxN; simp [hg48, hl57, hg97, hl102, he58, he46, ne58, ne46]
                          have HF := Lib.hid (show brackB l = false by rw [HG.out]; exact all_at hexB_n hlt hq)
                          clear hq
                          go_wp2
                          go_ret
                          exact ⟨by rw [HF.out]; rfl, HB.out.1⟩
                  · have tg97 : decide ((97 : Int) ≤ (ax m j : Int)) = false := decide_eq_false (by omega)
                    by_cases hl102 : ax m j ≤ 102
                    · have tl102 : decide ((ax m j : Int) ≤ 102) = true := decide_eq_true (by omega)
                      by_cases he58 : ax m j = 58
                      · have te58 : ((ax m j : Int) == 58) = true := by rw [beq_iff_eq]; omega
                        by_cases he46 : ax m j = 46
                        · omega
                        · have ne46 : (ax m j == 46) = false := by rw [beq_eq_false_iff_ne]; exact he46
                          have te46 : ((ax m j : Int) == 46) = false := by rw [beq_eq_false_iff_ne]; omega
                          have hq : hxN (ax m j) = true := by unfold hxN; simp [hg48, hl57, hg97, hl102, he58, he46, ne46]
                          have HF := Lib.hid (show ∀ k, k < j + 1 → hxN (ax m k) = true from fun k hk' => by
                            by_cases hkj : k = j
                            · subst hkj; exact hq
                            · exact HK.out k (by omega))
                          clear hq
                          go_wp2
                          go_round
                          case rel => exact ⟨j + 1, by omega, by go_num, HF.out⟩
                          case measure => simp [intOf]; omega
                      · have ne58 : (ax m j == 58) = false := by rw [beq_eq_false_iff_ne]; exact he58
                        have te58 : ((ax m j : Int) == 58) = false := by rw [beq_eq_false_iff_ne]; omega
                        by_cases he46 : ax m j = 46
                        · omega
                        · have ne46 : (ax m j == 46) = false := by rw [beq_eq_false_iff_ne]; exact he46
                          have te46 : ((ax m j : Int) == 46) = false := by rw [beq_eq_false_iff_ne]; omega
                          have hq : hxN (ax m j) = false := by unfold hxN; simp [hg48, hl57, hg97, hl102, he58, he46, ne58, ne46]
                          have HF := Lib.hid (show brackB l = false by rw [HG.out]; exact all_at hexB_n hlt hq)
                          clear hq
                          go_wp2
                          go_ret
                          exact ⟨by rw [HF.out]; rfl, HB.out.1⟩
                    · omega
              · have tg48 : decide ((48 : Int) ≤ (ax m j : Int)) = false := decide_eq_false (by omega)
                by_cases hl57 : ax m j ≤ 57
                · have tl57 : decide ((ax m j : Int) ≤ 57) = true := decide_eq_true (by omega)
                  by_cases hg97 : 97 ≤ ax m j
                  · omega
                  · have tg97 : decide ((97 : Int) ≤ (ax m j : Int)) = false := decide_eq_false (by omega)
                    by_cases hl102 : ax m j ≤ 102
                    · have tl102 : decide ((ax m j : Int) ≤ 102) = true := decide_eq_true (by omega)
                      by_cases he58 : ax m j = 58
                      · omega
                      · have ne58 : (ax m j == 58) = false := by rw [beq_eq_false_iff_ne]; exact he58
                        have te58 : ((ax m j : Int) == 58) = false := by rw [beq_eq_false_iff_ne]; omega
                        by_cases he46 : ax m j = 46
                        · have te46 : ((ax m j : Int) == 46) = true := by rw [beq_iff_eq]; omega
                          have hq : hxN (ax m j) = true := by unfold hxN; simp [hg48, hl57, hg97, hl102, he58, he46, ne58]
                          have HF := Lib.hid (show ∀ k, k < j + 1 → hxN (ax m k) = true from fun k hk' => by
                            by_cases hkj : k = j
                            · subst hkj; exact hq
                            · exact HK.out k (by omega))
                          clear hq
                          go_wp2
                          go_round
                          case rel => exact ⟨j + 1, by omega, by go_num, HF.out⟩
                          case measure => simp [intOf]; omega
                        · have ne46 : (ax m j == 46) = false := by rw [beq_eq_false_iff_ne]; exact he46
                          have te46 : ((ax m j : Int) == 46) = false := by rw [beq_eq_false_iff_ne]; omega
                          have hq : hxN (ax m j) = false := by unfold hxN; simp [hg48, hl57, hg97, hl102, he58, he46, ne58, ne46]
                          have HF := Lib.hid (show brackB l = false by rw [HG.out]; exact all_at hexB_n hlt hq)
                          clear hq
                          go_wp2
                          go_ret
                          exact ⟨by rw [HF.out]; rfl, HB.out.1⟩
                    · omega
                · omega
            · have HF := Lib.hid (show brackB l = true by rw [HG.out]; exact all_yes hexB_n (fun k hk' => HK.out k (by omega)))
              go_wp2
              go_ret
              exact ⟨by rw [HF.out]; rfl, HB.out.1⟩
        · have v3 : ((ax l (l.length - 1) : Int) != 93) = true := by rw [bne_iff_ne]; omega
          have HF := Lib.hid (show brackB l = false by
            have e : (ax l (l.length - 1) == 93) = false := by rw [beq_eq_false_iff_ne]; exact hb
            rw [HL.out, e]; simp)
          go_enter Tryz.func163, Tryz.ntmps163
          go_wp2
          go_ret
          exact ⟨by rw [HF.out]; rfl, Below.refl _ _⟩
      · have v3 : ((ax l 0 : Int) != 91) = true := by rw [bne_iff_ne]; omega
        have HF := Lib.hid (show brackB l = false by
          have e : (ax l 0 == 91) = false := by rw [beq_eq_false_iff_ne]; exact ha
          rw [HL.out, e]; simp)
        go_enter Tryz.func163, Tryz.ntmps163
        go_wp2
        go_ret
        exact ⟨by rw [HF.out]; rfl, Below.refl _ _⟩
    · have v1 : decide ((47 : Int) < (l.length : Int)) = true := decide_eq_true (by omega)
      have HF := Lib.hid (show brackB l = false by rw [HL.out, decide_eq_false h47]; simp)
      go_enter Tryz.func163, Tryz.ntmps163
      go_wp2
      go_ret
      exact ⟨by rw [HF.out]; rfl, Below.refl _ _⟩
  · have v0 : decide ((l.length : Int) < 4) = true := decide_eq_true (by omega)
    have HF := Lib.hid (show brackB l = false by rw [HL.out, decide_eq_false h4]; simp)
    go_enter Tryz.func163, Tryz.ntmps163
    go_wp2
    go_ret
    exact ⟨by rw [HF.out]; rfl, Below.refl _ _⟩
set_option maxHeartbeats 2000000 in
theorem rbracket_any (l : List UInt8) (hl : l.length ≤ 1000000) (w : World) : Calls Tryz.prog 157 #[.string (bs l)] w fun r w' => r = .returned (.bool (brackB l)) ∧ w = w' := by
  have HL := Lib.hid (brack_ax l)
  by_cases h4 : 4 ≤ l.length
  · have v0 : decide ((l.length : Int) < 4) = false := decide_eq_false (by omega)
    have v0' : (0 : Int) < (l.length : Int) := by omega
    have y4 : IntKind.i64.wrap ((l.length : Int) - 1) = (l.length : Int) - 1 := IntWalk.i64_in _ (by omega)
    by_cases h47 : l.length ≤ 47
    · have v1 : decide ((47 : Int) < (l.length : Int)) = false := decide_eq_false (by omega)
      by_cases ha : ax l 0 = 91
      · by_cases hb : ax l (l.length - 1) = 93
        · have HG := Lib.hid (show brackB l = ((l.drop 1).take (l.length - 2)).all hexB by rw [HL.out, decide_eq_true h4, decide_eq_true h47, ha, hb]; simp)
          clear HL
          go_enter Tryz.func157, Tryz.ntmps157
          go_wp2
          go_loop [3] (fun i => ∃ j : Nat, j + 2 ≤ l.length ∧ i = .int .i64 ((j + 1 : Nat) : Int) ∧ ∀ k, k < j → hxN (ax l (k + 1)) = true) (fun i => l.length - (intOf i).toNat)
          case atStart => exact ⟨0, by omega, rfl, fun k hk => absurd hk (by omega)⟩
          case round =>
            obtain ⟨j, hj, rfl, hk⟩ := hrel
            have HK := Lib.hid hk
            clear hk
            by_cases hlt : j + 2 < l.length
            · have t1 : decide (((j + 1 : Nat) : Int) < (l.length : Int) - 1) = true := decide_eq_true (by omega)
              have t2 : decide ((j : Int) + 1 < (l.length : Int) - 1) = true := decide_eq_true (by omega)
              have t3 : j + 1 < l.length := by omega
              by_cases hg48 : 48 ≤ ax l (j + 1)
              · have tg48 : decide ((48 : Int) ≤ (ax l (j + 1) : Int)) = true := decide_eq_true (by omega)
                by_cases hl57 : ax l (j + 1) ≤ 57
                · have tl57 : decide ((ax l (j + 1) : Int) ≤ 57) = true := decide_eq_true (by omega)
                  by_cases hg97 : 97 ≤ ax l (j + 1)
                  · omega
                  · have tg97 : decide ((97 : Int) ≤ (ax l (j + 1) : Int)) = false := decide_eq_false (by omega)
                    by_cases hl102 : ax l (j + 1) ≤ 102
                    · have tl102 : decide ((ax l (j + 1) : Int) ≤ 102) = true := decide_eq_true (by omega)
                      by_cases he58 : ax l (j + 1) = 58
                      · omega
                      · have ne58 : (ax l (j + 1) == 58) = false := by rw [beq_eq_false_iff_ne]; exact he58
                        have te58 : ((ax l (j + 1) : Int) == 58) = false := by rw [beq_eq_false_iff_ne]; omega
                        by_cases he46 : ax l (j + 1) = 46
                        · omega
                        · have ne46 : (ax l (j + 1) == 46) = false := by rw [beq_eq_false_iff_ne]; exact he46
                          have te46 : ((ax l (j + 1) : Int) == 46) = false := by rw [beq_eq_false_iff_ne]; omega
                          have hq : hxN (ax l (j + 1)) = true := by unfold hxN; simp [hg48, hl57, hg97, hl102, he58, he46, ne58, ne46]
                          have HF := Lib.hid (show ∀ k, k < j + 1 → hxN (ax l (k + 1)) = true from fun k hk' => by
                            by_cases hkj : k = j
                            · subst hkj; exact hq
                            · exact HK.out k (by omega))
                          clear hq
                          go_wp2
                          go_round
                          case rel => exact ⟨j + 1, by omega, by go_num, HF.out⟩
                          case measure => simp [intOf]; omega
                    · omega
                · have tl57 : decide ((ax l (j + 1) : Int) ≤ 57) = false := decide_eq_false (by omega)
                  by_cases hg97 : 97 ≤ ax l (j + 1)
                  · have tg97 : decide ((97 : Int) ≤ (ax l (j + 1) : Int)) = true := decide_eq_true (by omega)
                    by_cases hl102 : ax l (j + 1) ≤ 102
                    · have tl102 : decide ((ax l (j + 1) : Int) ≤ 102) = true := decide_eq_true (by omega)
                      by_cases he58 : ax l (j + 1) = 58
                      · omega
                      · have ne58 : (ax l (j + 1) == 58) = false := by rw [beq_eq_false_iff_ne]; exact he58
                        have te58 : ((ax l (j + 1) : Int) == 58) = false := by rw [beq_eq_false_iff_ne]; omega
                        by_cases he46 : ax l (j + 1) = 46
                        · omega
                        · have ne46 : (ax l (j + 1) == 46) = false := by rw [beq_eq_false_iff_ne]; exact he46
                          have te46 : ((ax l (j + 1) : Int) == 46) = false := by rw [beq_eq_false_iff_ne]; omega
                          have hq : hxN (ax l (j + 1)) = true := by unfold hxN; simp [hg48, hl57, hg97, hl102, he58, he46, ne58, ne46]
                          have HF := Lib.hid (show ∀ k, k < j + 1 → hxN (ax l (k + 1)) = true from fun k hk' => by
                            by_cases hkj : k = j
                            · subst hkj; exact hq
                            · exact HK.out k (by omega))
                          clear hq
                          go_wp2
                          go_round
                          case rel => exact ⟨j + 1, by omega, by go_num, HF.out⟩
                          case measure => simp [intOf]; omega
                    · have tl102 : decide ((ax l (j + 1) : Int) ≤ 102) = false := decide_eq_false (by omega)
                      by_cases he58 : ax l (j + 1) = 58
                      · omega
                      · have ne58 : (ax l (j + 1) == 58) = false := by rw [beq_eq_false_iff_ne]; exact he58
                        have te58 : ((ax l (j + 1) : Int) == 58) = false := by rw [beq_eq_false_iff_ne]; omega
                        by_cases he46 : ax l (j + 1) = 46
                        · omega
                        · have ne46 : (ax l (j + 1) == 46) = false := by rw [beq_eq_false_iff_ne]; exact he46
                          have te46 : ((ax l (j + 1) : Int) == 46) = false := by rw [beq_eq_false_iff_ne]; omega
                          have hq : hxN (ax l (j + 1)) = false := by unfold hxN; simp [hg48, hl57, hg97, hl102, he58, he46, ne58, ne46]
                          have HF := Lib.hid (show brackB l = false by rw [HG.out]; exact all_at (j := j) hexB_n (by rw [mid_lenB h4]; omega) (by rw [mid_ax (by omega)]; exact hq))
                          clear hq
                          go_wp2
                          go_ret
                          exact ⟨by rw [HF.out]; rfl, rfl⟩
                  · have tg97 : decide ((97 : Int) ≤ (ax l (j + 1) : Int)) = false := decide_eq_false (by omega)
                    by_cases hl102 : ax l (j + 1) ≤ 102
                    · have tl102 : decide ((ax l (j + 1) : Int) ≤ 102) = true := decide_eq_true (by omega)
                      by_cases he58 : ax l (j + 1) = 58
                      · have te58 : ((ax l (j + 1) : Int) == 58) = true := by rw [beq_iff_eq]; omega
                        by_cases he46 : ax l (j + 1) = 46
                        · omega
                        · have ne46 : (ax l (j + 1) == 46) = false := by rw [beq_eq_false_iff_ne]; exact he46
                          have te46 : ((ax l (j + 1) : Int) == 46) = false := by rw [beq_eq_false_iff_ne]; omega
                          have hq : hxN (ax l (j + 1)) = true := by unfold hxN; simp [hg48, hl57, hg97, hl102, he58, he46, ne46]
                          have HF := Lib.hid (show ∀ k, k < j + 1 → hxN (ax l (k + 1)) = true from fun k hk' => by
                            by_cases hkj : k = j
                            · subst hkj; exact hq
                            · exact HK.out k (by omega))
                          clear hq
                          go_wp2
                          go_round
                          case rel => exact ⟨j + 1, by omega, by go_num, HF.out⟩
                          case measure => simp [intOf]; omega
                      · have ne58 : (ax l (j + 1) == 58) = false := by rw [beq_eq_false_iff_ne]; exact he58
                        have te58 : ((ax l (j + 1) : Int) == 58) = false := by rw [beq_eq_false_iff_ne]; omega
                        by_cases he46 : ax l (j + 1) = 46
                        · omega
                        · have ne46 : (ax l (j + 1) == 46) = false := by rw [beq_eq_false_iff_ne]; exact he46
                          have te46 : ((ax l (j + 1) : Int) == 46) = false := by rw [beq_eq_false_iff_ne]; omega
                          have hq : hxN (ax l (j + 1)) = false := by unfold hxN; simp [hg48, hl57, hg97, hl102, he58, he46, ne58, ne46]
                          have HF := Lib.hid (show brackB l = false by rw [HG.out]; exact all_at (j := j) hexB_n (by rw [mid_lenB h4]; omega) (by rw [mid_ax (by omega)]; exact hq))
                          clear hq
                          go_wp2
                          go_ret
                          exact ⟨by rw [HF.out]; rfl, rfl⟩
                    · omega
              · have tg48 : decide ((48 : Int) ≤ (ax l (j + 1) : Int)) = false := decide_eq_false (by omega)
                by_cases hl57 : ax l (j + 1) ≤ 57
                · have tl57 : decide ((ax l (j + 1) : Int) ≤ 57) = true := decide_eq_true (by omega)
                  by_cases hg97 : 97 ≤ ax l (j + 1)
                  · omega
                  · have tg97 : decide ((97 : Int) ≤ (ax l (j + 1) : Int)) = false := decide_eq_false (by omega)
                    by_cases hl102 : ax l (j + 1) ≤ 102
                    · have tl102 : decide ((ax l (j + 1) : Int) ≤ 102) = true := decide_eq_true (by omega)
                      by_cases he58 : ax l (j + 1) = 58
                      · omega
                      · have ne58 : (ax l (j + 1) == 58) = false := by rw [beq_eq_false_iff_ne]; exact he58
                        have te58 : ((ax l (j + 1) : Int) == 58) = false := by rw [beq_eq_false_iff_ne]; omega
                        by_cases he46 : ax l (j + 1) = 46
                        · have te46 : ((ax l (j + 1) : Int) == 46) = true := by rw [beq_iff_eq]; omega
                          have hq : hxN (ax l (j + 1)) = true := by unfold hxN; simp [hg48, hl57, hg97, hl102, he58, he46, ne58]
                          have HF := Lib.hid (show ∀ k, k < j + 1 → hxN (ax l (k + 1)) = true from fun k hk' => by
                            by_cases hkj : k = j
                            · subst hkj; exact hq
                            · exact HK.out k (by omega))
                          clear hq
                          go_wp2
                          go_round
                          case rel => exact ⟨j + 1, by omega, by go_num, HF.out⟩
                          case measure => simp [intOf]; omega
                        · have ne46 : (ax l (j + 1) == 46) = false := by rw [beq_eq_false_iff_ne]; exact he46
                          have te46 : ((ax l (j + 1) : Int) == 46) = false := by rw [beq_eq_false_iff_ne]; omega
                          have hq : hxN (ax l (j + 1)) = false := by unfold hxN; simp [hg48, hl57, hg97, hl102, he58, he46, ne58, ne46]
                          have HF := Lib.hid (show brackB l = false by rw [HG.out]; exact all_at (j := j) hexB_n (by rw [mid_lenB h4]; omega) (by rw [mid_ax (by omega)]; exact hq))
                          clear hq
                          go_wp2
                          go_ret
                          exact ⟨by rw [HF.out]; rfl, rfl⟩
                    · omega
                · omega
            · have HF := Lib.hid (show brackB l = true by rw [HG.out]; exact all_yes hexB_n (fun k hk' => by rw [mid_lenB h4] at hk'; rw [mid_ax (by omega)]; exact HK.out k (by omega)))
              have t1 : decide (((j + 1 : Nat) : Int) < (l.length : Int) - 1) = false := decide_eq_false (by omega)
              have t2 : decide ((j : Int) + 1 < (l.length : Int) - 1) = false := decide_eq_false (by omega)
              go_wp2
              go_ret
              exact ⟨by rw [HF.out]; rfl, rfl⟩
        · have v3 : ((ax l (l.length - 1) : Int) != 93) = true := by rw [bne_iff_ne]; omega
          have HF := Lib.hid (show brackB l = false by
            have e : (ax l (l.length - 1) == 93) = false := by rw [beq_eq_false_iff_ne]; exact hb
            rw [HL.out, e]; simp)
          go_enter Tryz.func157, Tryz.ntmps157
          go_wp2
          go_ret
          exact ⟨by rw [HF.out]; rfl, rfl⟩
      · have v3 : ((ax l 0 : Int) != 91) = true := by rw [bne_iff_ne]; omega
        have HF := Lib.hid (show brackB l = false by
          have e : (ax l 0 == 91) = false := by rw [beq_eq_false_iff_ne]; exact ha
          rw [HL.out, e]; simp)
        go_enter Tryz.func157, Tryz.ntmps157
        go_wp2
        go_ret
        exact ⟨by rw [HF.out]; rfl, rfl⟩
    · have v1 : decide ((47 : Int) < (l.length : Int)) = true := decide_eq_true (by omega)
      have HF := Lib.hid (show brackB l = false by rw [HL.out, decide_eq_false h47]; simp)
      go_enter Tryz.func157, Tryz.ntmps157
      go_wp2
      go_ret
      exact ⟨by rw [HF.out]; rfl, rfl⟩
  · have v0 : decide ((l.length : Int) < 4) = true := decide_eq_true (by omega)
    have HF := Lib.hid (show brackB l = false by rw [HL.out, decide_eq_false h4]; simp)
    go_enter Tryz.func157, Tryz.ntmps157
    go_wp2
    go_ret
    exact ⟨by rw [HF.out]; rfl, rfl⟩
end Go.Proofs.YtpakmeegldgjmaaGreat
/- Layer 8 (host): four, Address, name, Canon; and the document's. -/
namespace Go.Proofs.YtpakmeegldgjmaaGreat
open Go.RowKit
set_option linter.unusedVariables false
set_option maxRecDepth 100000
attribute [local go_sem ↓] Go.wp_at_zero Go.wp_at_succ
attribute [local go_sem high] idx_bs cut_bs cut_from cut_to
attribute [local go_sem] bs_size bs_list bs_nil_list bs_get bs_cut

theorem quietF8 {P : Program} {f : FuncId} {args : Array Value} {w : World} {n : Nat} {v : Value}
    (h : Calls P f args (w.drewN n) fun e w' => e = .returned v ∧ w.drewN n = w') : Calls P f args (w.drewN n) fun e w'' => e = .returned v ∧ ∃ m, w'' = w.drewN m :=
  h.mono fun _ _ ⟨he, hm⟩ => ⟨he, n, hm.symm⟩
/-- The number of an address, by parts. -/
theorem oct_no {p : List UInt8} (h : dgN p < p.length) : octB p = false := by
  unfold octB
  rw [all_dgN, decide_eq_false (by omega : ¬ dgN p = p.length)]
  simp
theorem oct_big {p : List UInt8} (h : 255 < numL p) : octB p = false := by
  unfold octB
  rw [decide_eq_false (by omega : ¬ numL p ≤ 255)]
  simp
theorem oct_ax {p : List UInt8} (h0 : 0 < p.length) (hd : dgN p = p.length) (hn : numL p ≤ 255) : octB p = !(decide (1 < p.length) && (ax p 0 == 48)) := by
  unfold octB
  rw [all_dgN, decide_eq_true hd, decide_eq_true hn, head_ax (q := fun n => n == 48) (fun x => rfl) h0]
  have : p ≠ [] := by intro e; rw [e] at h0; simp at h0
  rw [decide_eq_true this]
  simp
theorem four_at {l p : List UInt8} {j : Nat} (h : (splitL 46 l)[j]? = some p) (ho : octB p = false) : fourB l = false := by
  unfold fourB
  have : (splitL 46 l).all octB = false := by
    rw [List.all_eq_false]
    exact ⟨p, List.mem_of_getElem? h, by rw [ho]; simp⟩
  rw [this, Bool.and_false]
theorem all_take_step {L : List (List UInt8)} {j : Nat} {p : List UInt8} {f : List UInt8 → Bool} (h : (L.take j).all f = true) (hp : L[j]? = some p) (ho : f p = true) : (L.take (j + 1)).all f = true := by
  rw [List.take_add_one, hp, List.all_append, h]
  simp [ho]
set_option maxHeartbeats 2000000 in
theorem four_any (l : List UInt8) (hl : l.length ≤ 1000000) (w : World) : Calls Tryz.prog 162 #[.string (bs l)] w fun r w' => r = .returned (.bool (fourB l)) ∧ Below w.heap.size w w' := by
  have CS := Lib.hid (split_any l 46 hl w)
  rw [show ((46 : Nat) : Int) = 46 from rfl] at CS
  have CN := Lib.hid (fun (p : List UInt8) (hp : p.length ≤ 1000000) w => ascnum_any p hp w)
  have CD := Lib.hid (fun (p : List UInt8) (hp : p.length ≤ 1000000) w => digits_any p hp w)
  have HE := Lib.hid (fun p (hp : p ∈ splitL 46 l) => splitL_el 46 l p hp)
  have HA := Lib.hid (fun (j : Nat) (p : List UInt8) (h : (splitL 46 l)[j]? = some p) (ho : octB p = false) => four_at h ho)
  have HF := Lib.hid (show fourB l = (decide ((splitL 46 l).length = 4) && (splitL 46 l).all octB) from rfl)
  generalize splitL 46 l = L at *
  by_cases h4 : L.length = 4
  · go_enter Tryz.func162, Tryz.ntmps162
    go_wp2_with fail
    refine (CS.out).mono ?_; rintro e w1 ⟨A1, c1, rfl, hr, b1⟩
    rw [h4] at hr ⊢
    have HR := Lib.hid (And.intro hr b1)
    clear hr b1
    go_wp2
    go_loop [15] (fun i => ∃ j : Nat, j ≤ 4 ∧ i = .int .i64 j ∧ (L.take j).all octB = true) (fun i => 4 - (intOf i).toNat)
    case atStart => exact ⟨0, by omega, rfl, by simp⟩
    case round =>
      obtain ⟨j, hj, rfl, hk⟩ := hrel
      have HK := Lib.hid hk
      clear hk
      by_cases hlt : j < 4
      · have t1 : decide ((j : Int) < 4) = true := decide_eq_true (by omega)
        obtain ⟨b, o, u, rfl, hb, hu, hc⟩ := HR.out.1.at_ hlt
        obtain ⟨p, hp⟩ : ∃ p, L[j]? = some p := ⟨L[j]'(by omega), List.getElem?_eq_getElem _⟩
        rw [stv_get hp] at hu
        injection hu with hu
        subst hu
        have hpl : p.length ≤ 1000000 := Nat.le_trans (HE.out p (List.mem_of_getElem? hp)) hl
        have HP := Lib.hid hp
        clear hp
        go_wp2_with fail
        refine (CN.out p hpl _).mono ?_; rintro e w2 ⟨n, b2, rfl, hn, rfl⟩
        have HN := Lib.hid hn
        clear hn
        by_cases h0 : 0 < p.length
        · have v0 := ne_nil_beq h0
          have hpn : p ≠ [] := by intro e; rw [e] at h0; simp at h0
          have hdl := dgN_le p
          by_cases hd : dgN p < p.length
          · have t2 : decide ((dgN p : Int) < (p.length : Int)) = true := decide_eq_true (by omega)
            have t2n : decide (dgN p < p.length) = true := decide_eq_true hd
            have HX := Lib.hid (HA.out j p HP.out (oct_no hd))
            clear hpn
            go_wp2_with fail
            refine (CD.out p hpl _).mono ?_; rintro e w2 ⟨rfl, rfl⟩
            go_wp2
            go_ret
            exact ⟨by rw [HX.out]; rfl, HR.out.2⟩
          · have t2 : decide ((dgN p : Int) < (p.length : Int)) = false := decide_eq_false (by omega)
            have t2n : decide (dgN p < p.length) = false := decide_eq_false hd
            have hd' : dgN p = p.length := by omega
            obtain rfl := HN.out hpn (by rw [all_dgN, decide_eq_true hd'])
            clear hpn
            by_cases hb' : 255 < numL p
            · have t3 : decide ((255 : Int) < (numL p : Int)) = true := decide_eq_true (by omega)
              have t3' : decide (255 < numL p) = true := decide_eq_true hb'
              have HX := Lib.hid (HA.out j p HP.out (oct_big hb'))
              clear hd' hd
              go_wp2_with fail
              refine (CD.out p hpl _).mono ?_; rintro e w2 ⟨rfl, rfl⟩
              go_wp2
              go_ret
              exact ⟨by rw [HX.out]; rfl, HR.out.2⟩
            · have t3 : decide ((255 : Int) < (numL p : Int)) = false := decide_eq_false (by omega)
              have t3' : decide (255 < numL p) = false := decide_eq_false hb'
              have HO := Lib.hid (oct_ax h0 hd' (by omega))
              clear hd' hd
              by_cases h1 : 1 < p.length
              · have t4 : decide ((1 : Int) < (p.length : Int)) = true := decide_eq_true (by omega)
                have u0 : (0 : Int) < (p.length : Int) := by omega
                by_cases h48 : ax p 0 = 48
                · have HX := Lib.hid (HA.out j p HP.out (by rw [HO.out, decide_eq_true h1, h48]; rfl))
                  go_wp2_with fail
                  refine (CD.out p hpl _).mono ?_; rintro e w2 ⟨rfl, rfl⟩
                  go_wp2
                  go_ret
                  exact ⟨by rw [HX.out]; rfl, HR.out.2⟩
                · have t5 : ((ax p 0 : Int) == 48) = false := by rw [beq_eq_false_iff_ne]; omega
                  have HX := Lib.hid (all_take_step HK.out HP.out (by rw [HO.out, show (ax p 0 == 48) = false by rw [beq_eq_false_iff_ne]; exact h48]; simp))
                  go_wp2_with fail
                  refine (CD.out p hpl _).mono ?_; rintro e w2 ⟨rfl, rfl⟩
                  go_wp2
                  go_round
                  case rel => exact ⟨j + 1, by omega, by go_num, HX.out⟩
                  case measure => simp [intOf]; omega
              · have t4 : decide ((1 : Int) < (p.length : Int)) = false := decide_eq_false (by omega)
                have HX := Lib.hid (all_take_step HK.out HP.out (by rw [HO.out, decide_eq_false h1]; simp))
                go_wp2_with fail
                refine (CD.out p hpl _).mono ?_; rintro e w2 ⟨rfl, rfl⟩
                go_wp2
                go_round
                case rel => exact ⟨j + 1, by omega, by go_num, HX.out⟩
                case measure => simp [intOf]; omega
        · obtain rfl : p = [] := by cases p with | nil => rfl | cons _ _ => simp at h0
          have HX := Lib.hid (HA.out j [] HP.out rfl)
          go_wp2
          go_ret
          exact ⟨by rw [HX.out]; rfl, HR.out.2⟩
      · have t1 : decide ((j : Int) < 4) = false := decide_eq_false (by omega)
        have HX := Lib.hid (show fourB l = true by
          have := HK.out
          rw [List.take_of_length_le (by omega)] at this
          rw [HF.out, decide_eq_true h4, this]; rfl)
        go_wp2
        go_ret
        exact ⟨by rw [HX.out]; rfl, HR.out.2⟩
  · have t1 : ((L.length : Int) != 4) = true := by rw [bne_iff_ne]; omega
    have HX := Lib.hid (show fourB l = false by rw [HF.out, decide_eq_false h4]; rfl)
    go_enter Tryz.func162, Tryz.ntmps162
    go_wp2_with fail
    refine (CS.out).mono ?_; rintro e w1 ⟨A1, c1, rfl, hr, b1⟩
    go_wp2
    go_ret
    exact ⟨by rw [HX.out]; rfl, b1⟩
/-- The document's number of an address. -/
theorem octR_short {p : List UInt8} (h : p.length < 1) : octR p = false := by
  unfold octR
  rw [decide_eq_false (by omega : ¬ 1 ≤ p.length)]
  rfl
theorem octR_long {p : List UInt8} (h : 3 < p.length) : octR p = false := by
  unfold octR
  rw [decide_eq_false (by omega : ¬ p.length ≤ 3)]
  simp
theorem octR_dig {p : List UInt8} (h : dgN p ≠ p.length) : octR p = false := by
  unfold octR
  rw [all_dgN, decide_eq_false h]
  simp
theorem octR_big {p : List UInt8} (h : 255 < numL p) : octR p = false := by
  unfold octR
  rw [decide_eq_false (by omega : ¬ numL p ≤ 255)]
  simp
theorem octR_is {p : List UInt8} (h1 : 1 ≤ p.length) (h3 : p.length ≤ 3) (hd : dgN p = p.length) (hn : numL p ≤ 255) : octR p = decide (digL (numL p) = p) := by
  unfold octR
  rw [all_dgN, decide_eq_true hd, decide_eq_true hn, decide_eq_true h1, decide_eq_true h3]
  simp
theorem rsplit46 (l : List UInt8) (hl : l.length ≤ 1000000) (w : World) : Calls Tryz.prog 155 #[.string (bs l), .int .u8 46] w (SplE w (splitL 46 l)) := rsplit_any l 46 hl w
set_option maxHeartbeats 2000000 in
theorem rfour_any (l : List UInt8) (hl : l.length ≤ 1000000) (w : World) : Calls Tryz.prog 154 #[.string (bs l)] w fun r w' => r = .returned (.bool (fourB l)) ∧ Below w.heap.size w w' := by
  have CS := Lib.hid (rsplit46 l hl w)
  have CN := Lib.hid (fun (p : List UInt8) (hp : p.length ≤ 1000000) h0 hd w => rnumber_dig p hp h0 hd w)
  have CD := Lib.hid (fun (p : List UInt8) (hp : p.length ≤ 1000000) w => rdigits_any p hp w)
  have CT := Lib.hid (fun (n : Nat) (hn : n ≤ 1000) w => rtext_small n hn w)
  have HE := Lib.hid (fun p (hp : p ∈ splitL 46 l) => splitL_el 46 l p hp)
  have HA := Lib.hid (fun (j : Nat) (p : List UInt8) (h : (splitL 46 l)[j]? = some p) (ho : octR p = false) => four_at h (by rw [oct_eq]; exact ho))
  have HF := Lib.hid (show fourB l = (decide ((splitL 46 l).length = 4) && (splitL 46 l).all octB) from rfl)
  generalize splitL 46 l = L at *
  by_cases h4 : L.length = 4
  · go_enter Tryz.func154, Tryz.ntmps154
    go_wp2_with fail
    refine (CS.out).mono ?_; rintro e w1 ⟨A1, c1, rfl, hr, b1⟩
    rw [h4] at hr ⊢
    have HR := Lib.hid (And.intro hr b1)
    generalize hM : w1.heap.size = M at *
    have hMs := Lib.hid hM
    clear hr b1
    go_wp2
    go_loopw [4] (fun i wr => ∃ j : Nat, j ≤ 4 ∧ i = .int .i64 j ∧ (L.take j).all octB = true ∧ Below M w1 wr) (fun i _ => 4 - (intOf i).toNat)
    case atStart => exact ⟨0, by omega, rfl, by simp, Below.refl _ _⟩
    case round =>
      obtain ⟨j, hj, rfl, hk, hbw⟩ := hrel
      have HK := Lib.hid (And.intro hk hbw)
      by_cases hlt : j < 4
      · have t1 : decide ((j : Int) < 4) = true := decide_eq_true (by omega)
        obtain ⟨b, o, u, rfl, hb, hu, hc⟩ := (HR.out.1.below hbw).at_ hlt
        obtain ⟨p, hp⟩ : ∃ p, L[j]? = some p := ⟨L[j]'(by omega), List.getElem?_eq_getElem _⟩
        rw [stv_get hp] at hu
        injection hu with hu
        subst hu
        have hpl : p.length ≤ 1000000 := Nat.le_trans (HE.out p (List.mem_of_getElem? hp)) hl
        have HP := Lib.hid hp
        have HB := Lib.hid (show Below w.heap.size w wr from HR.out.2.trans (below_of_le hbw (by rw [← hMs.out]; exact HR.out.2.size)))
        clear hp hk hbw hM
        have CDp := Lib.hid (CD.out p hpl)
        by_cases h1 : p.length < 1
        · have t2 : decide ((p.length : Int) < 1) = true := decide_eq_true (by omega)
          have t2n : decide (p.length < 1) = true := decide_eq_true h1
          have t2m : p = [] := by cases p with | nil => rfl | cons _ _ => simp at h1
          have HX := Lib.hid (HA.out j p HP.out (octR_short h1))
          subst t2m
          clear t2 t2n
          go_wp2
          go_quiet (fail)
          go_wp2
          go_ret
          exact ⟨by rw [HX.out]; rfl, below_drewN HB.out _⟩
        · have t2 : decide ((p.length : Int) < 1) = false := decide_eq_false (by omega)
          have t2m : ¬ p = [] := by intro e; rw [e] at h1; simp at h1
          by_cases h3 : 3 < p.length
          · have t3 : decide ((3 : Int) < (p.length : Int)) = true := decide_eq_true (by omega)
            have t3n : decide (3 < p.length) = true := decide_eq_true h3
            have HX := Lib.hid (HA.out j p HP.out (octR_long h3))
            go_wp2
            go_quiet (fail)
            go_wp2
            go_ret
            exact ⟨by rw [HX.out]; rfl, below_drewN HB.out _⟩
          · have t3 : decide ((3 : Int) < (p.length : Int)) = false := decide_eq_false (by omega)
            have t3n : decide (3 < p.length) = false := decide_eq_false h3
            by_cases hd : dgN p = p.length
            · have t4 : ((dgN p : Int) != (p.length : Int)) = false := by rw [hd]; simp
              have t4' : ((p.length : Int) != (p.length : Int)) = false := by simp
              have CNp := Lib.hid (CN.out p hpl (by omega) hd)
              by_cases hb' : 255 < numL p
              · have t5 : decide ((255 : Int) < (numL p : Int)) = true := decide_eq_true (by omega)
                have t5n : decide (255 < numL p) = true := decide_eq_true hb'
                have HX := Lib.hid (HA.out j p HP.out (octR_big hb'))
                clear h1 h3
                go_wp2
                go_quiet ((go_at_call 170; with_reducible exact quietF8 (CDp.out _)))
                go_wp2_with fail
                refine (CNp.out _).mono ?_; rintro e w2 ⟨rfl, rfl⟩
                go_wp2
                go_quiet (fail)
                go_wp2
                go_ret
                exact ⟨by rw [HX.out]; rfl, below_drewN (below_drewN HB.out _) _⟩
              · have t5 : decide ((255 : Int) < (numL p : Int)) = false := decide_eq_false (by omega)
                have t5n : decide (255 < numL p) = false := decide_eq_false hb'
                have HO := Lib.hid (octR_is (by omega) (by omega) hd (by omega : numL p ≤ 255))
                clear h1 h3
                by_cases he : digL (numL p) = p
                · have t6 : (digL (numL p) == p) = true := by rw [beq_iff_eq]; exact he
                  have HX := Lib.hid (all_take_step HK.out.1 HP.out (by rw [oct_eq, HO.out, decide_eq_true he]))
                  clear he
                  go_wp2
                  go_quiet ((go_at_call 170; with_reducible exact quietF8 (CDp.out _)))
                  go_wp2_with fail
                  refine (CNp.out _).mono ?_; rintro e w2 ⟨rfl, rfl⟩
                  go_wp2
                  have hj4 : (j : Int) < 4 := by omega
                  have hcq : (wr.drewN nq).cell? ⟨b, o + j, none⟩ = some (.string (bs p)) := hc
                  have hBq : Below M w1 (wr.drewN nq) := below_drewN HK.out.2 _
                  have hsq : M ≤ (wr.drewN nq).heap.size := by have := hBq.size; rw [hMs.out] at this; exact this
                  have hbW : Below w.heap.size w (wr.drewN nq) := below_drewN HB.out _
                  generalize wr.drewN nq = W2 at *
                  refine wp_region_held_drew (S := (fun W => W.cell? ⟨b, o + j, none⟩ = some (.string (bs p)))) (by kernel_rfl) ?_ (fun hHeld => ?_)
                  · (try dsimp only); exact hcq
                  refine wpAnyH_take (i := 0) (v := ?_) rfl (by kernel_rfl) (by kernel_rfl) (by kernel_rfl) (fun _ _ _ h => h) (Or.inl ⟨by rfl, ?_⟩) (by assumption) ?_
                  rotate_left
                  first | (focus ((intro w hSw; (try dsimp only at hSw); go_simp); (try with_reducible rfl); done)) | fail
                  try simp only [Act.put, List.getElem_toArray, List.getElem_cons_zero, List.setIfInBounds_toArray, List.set_cons_zero, List.set_cons_succ]
                  refine wpAnyH_take (i := 1) (v := ?_) rfl (by kernel_rfl) (by kernel_rfl) (by kernel_rfl) (fun _ _ _ h => h) (Or.inl ⟨by rfl, ?_⟩) (by assumption) ?_
                  rotate_left
                  first | (focus ((intro w hSw; (try dsimp only at hSw); go_simp); (try with_reducible rfl); done)) | fail
                  try simp only [Act.put, List.getElem_toArray, List.getElem_cons_zero, List.getElem_cons_succ, List.setIfInBounds_toArray, List.set_cons_zero, List.set_cons_succ]
                  refine wpAnyH_take (i := 2) (v := ?_) rfl (by kernel_rfl) (by kernel_rfl) (by kernel_rfl) (fun _ _ _ h => h) (Or.inl ⟨by rfl, ?_⟩) (by assumption) ?_
                  rotate_left
                  first | (focus ((intro w hSw; (try dsimp only at hSw); go_simp); (try with_reducible rfl); done)) | fail
                  try simp only [Act.put, List.getElem_toArray, List.getElem_cons_zero, List.getElem_cons_succ, List.setIfInBounds_toArray, List.set_cons_zero, List.set_cons_succ]
                  refine wpAnyH_take (i := 3) (v := ?_) rfl (by kernel_rfl) (by kernel_rfl) (by kernel_rfl) (fun _ _ _ h => h) (Or.inl ⟨by rfl, ?_⟩) (by assumption) ?_
                  rotate_left
                  first | (focus ((intro w hSw; (try dsimp only at hSw); go_simp); (try with_reducible rfl); done)) | fail
                  try simp only [Act.put, List.getElem_toArray, List.getElem_cons_zero, List.getElem_cons_succ, List.setIfInBounds_toArray, List.set_cons_zero, List.set_cons_succ]
                  refine wpAnyH_take (i := 5) (v := ?_) rfl (by kernel_rfl) (by kernel_rfl) (by kernel_rfl) (fun _ _ _ h => h) (Or.inl ⟨by rfl, ?_⟩) (by assumption) ?_
                  rotate_left
                  first | (focus ((intro w hSw; (try dsimp only at hSw); go_simp); (try with_reducible rfl); done)) | fail
                  try simp only [Act.put, List.getElem_toArray, List.getElem_cons_zero, List.getElem_cons_succ, List.setIfInBounds_toArray, List.set_cons_zero, List.set_cons_succ]
                  refine wpAnyH_take (i := 6) (v := ?_) rfl (by kernel_rfl) (by kernel_rfl) (by kernel_rfl) (fun _ _ _ h => h) (Or.inl ⟨by rfl, ?_⟩) (by assumption) ?_
                  rotate_left
                  first | (focus ((intro w hSw; (try dsimp only at hSw); go_simp); (try with_reducible rfl); done)) | fail
                  try simp only [Act.put, List.getElem_toArray, List.getElem_cons_zero, List.getElem_cons_succ, List.setIfInBounds_toArray, List.set_cons_zero, List.set_cons_succ]
                  refine wpAnyH_take (i := 7) (v := ?_) rfl (by kernel_rfl) (by kernel_rfl) (by kernel_rfl) (fun _ _ _ h => h) (Or.inl ⟨by rfl, ?_⟩) (by assumption) ?_
                  rotate_left
                  first | (focus ((intro w hSw; (try dsimp only at hSw); go_simp); (try with_reducible rfl); done)) | fail
                  try simp only [Act.put, List.getElem_toArray, List.getElem_cons_zero, List.getElem_cons_succ, List.setIfInBounds_toArray, List.set_cons_zero, List.set_cons_succ]
                  refine wpAnyH_take (i := 8) (v := ?_) rfl (by kernel_rfl) (by kernel_rfl) (by kernel_rfl) (fun _ _ _ h => h) (Or.inl ⟨by rfl, ?_⟩) (by assumption) ?_
                  rotate_left
                  first | (focus ((intro w hSw; (try dsimp only at hSw); go_simp); (try with_reducible rfl); done)) | fail
                  try simp only [Act.put, List.getElem_toArray, List.getElem_cons_zero, List.getElem_cons_succ, List.setIfInBounds_toArray, List.set_cons_zero, List.set_cons_succ]
                  refine wpAnyH_ready (rs := [4]) (by kernel_rfl) (by simp) ?_
                  refine AllReadyH.cons rfl (fun K hK => ?_) AllReadyH.nil
                  go_simp
                  refine (CT.out (numL p) (by omega) _).mono ?_; rintro e w5 ⟨rfl, b5⟩
                  go_wp2_with fail
                  refine hK.out _ _ ?_ (fun hHeld => ?_)
                  · (try dsimp only); exact (b5.cell (by simp only; exact Nat.lt_of_lt_of_le hb hsq)).trans hHeld
                  clear hK K
                  try simp only [Act.put, List.getElem_toArray, List.getElem_cons_zero, List.getElem_cons_succ, List.setIfInBounds_toArray, List.set_cons_zero, List.set_cons_succ]
                  have HB5 := Lib.hid (And.intro (hbW.drew.trans (below_of_le b5 hbW.size)) (hBq.drew.trans (below_of_le b5 hsq)))
                  clear b5
                  refine wpAnyH_take (i := 9) (v := ?_) rfl (by kernel_rfl) (by kernel_rfl) (by kernel_rfl) (fun _ _ _ h => h) (Or.inl ⟨by rfl, ?_⟩) (by assumption) ?_
                  rotate_left
                  first | (focus ((intro w hSw; (try dsimp only at hSw); go_simp); (try with_reducible rfl); done)) | fail
                  try simp only [Act.put, List.getElem_toArray, List.getElem_cons_zero, List.getElem_cons_succ, List.setIfInBounds_toArray, List.set_cons_zero, List.set_cons_succ]
                  refine wpAnyH_take (i := 10) (v := ?_) rfl (by kernel_rfl) (by kernel_rfl) (by kernel_rfl) (fun _ _ _ h => h) (Or.inl ⟨by rfl, ?_⟩) (by assumption) ?_
                  rotate_left
                  first | (focus ((intro w hSw; (try dsimp only at hSw); go_simp); (try with_reducible rfl); done)) | fail
                  try simp only [Act.put, List.getElem_toArray, List.getElem_cons_zero, List.getElem_cons_succ, List.setIfInBounds_toArray, List.set_cons_zero, List.set_cons_succ]
                  refine wpAnyH_done (by kernel_rfl) ?_ _
                  go_wp2
                  go_roundw
                  case rel => exact ⟨j + 1, by omega, by go_num, HX.out, HB5.out.2⟩
                  case measure => simp [intOf]; omega
                · have t6 : (digL (numL p) == p) = false := by rw [beq_eq_false_iff_ne]; exact he
                  have HX := Lib.hid (HA.out j p HP.out (by rw [HO.out, decide_eq_false he]))
                  clear he
                  go_wp2
                  go_quiet ((go_at_call 170; with_reducible exact quietF8 (CDp.out _)))
                  go_wp2_with fail
                  refine (CNp.out _).mono ?_; rintro e w2 ⟨rfl, rfl⟩
                  go_wp2
                  have hj4 : (j : Int) < 4 := by omega
                  have hcq : (wr.drewN nq).cell? ⟨b, o + j, none⟩ = some (.string (bs p)) := hc
                  have hBq : Below M w1 (wr.drewN nq) := below_drewN HK.out.2 _
                  have hsq : M ≤ (wr.drewN nq).heap.size := by have := hBq.size; rw [hMs.out] at this; exact this
                  have hbW : Below w.heap.size w (wr.drewN nq) := below_drewN HB.out _
                  generalize wr.drewN nq = W2 at *
                  refine wp_region_held_drew (S := (fun W => W.cell? ⟨b, o + j, none⟩ = some (.string (bs p)))) (by kernel_rfl) ?_ (fun hHeld => ?_)
                  · (try dsimp only); exact hcq
                  refine wpAnyH_take (i := 0) (v := ?_) rfl (by kernel_rfl) (by kernel_rfl) (by kernel_rfl) (fun _ _ _ h => h) (Or.inl ⟨by rfl, ?_⟩) (by assumption) ?_
                  rotate_left
                  first | (focus ((intro w hSw; (try dsimp only at hSw); go_simp); (try with_reducible rfl); done)) | fail
                  try simp only [Act.put, List.getElem_toArray, List.getElem_cons_zero, List.setIfInBounds_toArray, List.set_cons_zero, List.set_cons_succ]
                  refine wpAnyH_take (i := 1) (v := ?_) rfl (by kernel_rfl) (by kernel_rfl) (by kernel_rfl) (fun _ _ _ h => h) (Or.inl ⟨by rfl, ?_⟩) (by assumption) ?_
                  rotate_left
                  first | (focus ((intro w hSw; (try dsimp only at hSw); go_simp); (try with_reducible rfl); done)) | fail
                  try simp only [Act.put, List.getElem_toArray, List.getElem_cons_zero, List.getElem_cons_succ, List.setIfInBounds_toArray, List.set_cons_zero, List.set_cons_succ]
                  refine wpAnyH_take (i := 2) (v := ?_) rfl (by kernel_rfl) (by kernel_rfl) (by kernel_rfl) (fun _ _ _ h => h) (Or.inl ⟨by rfl, ?_⟩) (by assumption) ?_
                  rotate_left
                  first | (focus ((intro w hSw; (try dsimp only at hSw); go_simp); (try with_reducible rfl); done)) | fail
                  try simp only [Act.put, List.getElem_toArray, List.getElem_cons_zero, List.getElem_cons_succ, List.setIfInBounds_toArray, List.set_cons_zero, List.set_cons_succ]
                  refine wpAnyH_take (i := 3) (v := ?_) rfl (by kernel_rfl) (by kernel_rfl) (by kernel_rfl) (fun _ _ _ h => h) (Or.inl ⟨by rfl, ?_⟩) (by assumption) ?_
                  rotate_left
                  first | (focus ((intro w hSw; (try dsimp only at hSw); go_simp); (try with_reducible rfl); done)) | fail
                  try simp only [Act.put, List.getElem_toArray, List.getElem_cons_zero, List.getElem_cons_succ, List.setIfInBounds_toArray, List.set_cons_zero, List.set_cons_succ]
                  refine wpAnyH_take (i := 5) (v := ?_) rfl (by kernel_rfl) (by kernel_rfl) (by kernel_rfl) (fun _ _ _ h => h) (Or.inl ⟨by rfl, ?_⟩) (by assumption) ?_
                  rotate_left
                  first | (focus ((intro w hSw; (try dsimp only at hSw); go_simp); (try with_reducible rfl); done)) | fail
                  try simp only [Act.put, List.getElem_toArray, List.getElem_cons_zero, List.getElem_cons_succ, List.setIfInBounds_toArray, List.set_cons_zero, List.set_cons_succ]
                  refine wpAnyH_take (i := 6) (v := ?_) rfl (by kernel_rfl) (by kernel_rfl) (by kernel_rfl) (fun _ _ _ h => h) (Or.inl ⟨by rfl, ?_⟩) (by assumption) ?_
                  rotate_left
                  first | (focus ((intro w hSw; (try dsimp only at hSw); go_simp); (try with_reducible rfl); done)) | fail
                  try simp only [Act.put, List.getElem_toArray, List.getElem_cons_zero, List.getElem_cons_succ, List.setIfInBounds_toArray, List.set_cons_zero, List.set_cons_succ]
                  refine wpAnyH_take (i := 7) (v := ?_) rfl (by kernel_rfl) (by kernel_rfl) (by kernel_rfl) (fun _ _ _ h => h) (Or.inl ⟨by rfl, ?_⟩) (by assumption) ?_
                  rotate_left
                  first | (focus ((intro w hSw; (try dsimp only at hSw); go_simp); (try with_reducible rfl); done)) | fail
                  try simp only [Act.put, List.getElem_toArray, List.getElem_cons_zero, List.getElem_cons_succ, List.setIfInBounds_toArray, List.set_cons_zero, List.set_cons_succ]
                  refine wpAnyH_take (i := 8) (v := ?_) rfl (by kernel_rfl) (by kernel_rfl) (by kernel_rfl) (fun _ _ _ h => h) (Or.inl ⟨by rfl, ?_⟩) (by assumption) ?_
                  rotate_left
                  first | (focus ((intro w hSw; (try dsimp only at hSw); go_simp); (try with_reducible rfl); done)) | fail
                  try simp only [Act.put, List.getElem_toArray, List.getElem_cons_zero, List.getElem_cons_succ, List.setIfInBounds_toArray, List.set_cons_zero, List.set_cons_succ]
                  refine wpAnyH_ready (rs := [4]) (by kernel_rfl) (by simp) ?_
                  refine AllReadyH.cons rfl (fun K hK => ?_) AllReadyH.nil
                  go_simp
                  refine (CT.out (numL p) (by omega) _).mono ?_; rintro e w5 ⟨rfl, b5⟩
                  go_wp2_with fail
                  refine hK.out _ _ ?_ (fun hHeld => ?_)
                  · (try dsimp only); exact (b5.cell (by simp only; exact Nat.lt_of_lt_of_le hb hsq)).trans hHeld
                  clear hK K
                  try simp only [Act.put, List.getElem_toArray, List.getElem_cons_zero, List.getElem_cons_succ, List.setIfInBounds_toArray, List.set_cons_zero, List.set_cons_succ]
                  have HB5 := Lib.hid (And.intro (hbW.drew.trans (below_of_le b5 hbW.size)) (hBq.drew.trans (below_of_le b5 hsq)))
                  clear b5
                  refine wpAnyH_take (i := 9) (v := ?_) rfl (by kernel_rfl) (by kernel_rfl) (by kernel_rfl) (fun _ _ _ h => h) (Or.inl ⟨by rfl, ?_⟩) (by assumption) ?_
                  rotate_left
                  first | (focus ((intro w hSw; (try dsimp only at hSw); go_simp); (try with_reducible rfl); done)) | fail
                  try simp only [Act.put, List.getElem_toArray, List.getElem_cons_zero, List.getElem_cons_succ, List.setIfInBounds_toArray, List.set_cons_zero, List.set_cons_succ]
                  refine wpAnyH_take (i := 10) (v := ?_) rfl (by kernel_rfl) (by kernel_rfl) (by kernel_rfl) (fun _ _ _ h => h) (Or.inl ⟨by rfl, ?_⟩) (by assumption) ?_
                  rotate_left
                  first | (focus ((intro w hSw; (try dsimp only at hSw); go_simp); (try with_reducible rfl); done)) | fail
                  try simp only [Act.put, List.getElem_toArray, List.getElem_cons_zero, List.getElem_cons_succ, List.setIfInBounds_toArray, List.set_cons_zero, List.set_cons_succ]
                  refine wpAnyH_done (by kernel_rfl) ?_ _
                  go_wp2
                  go_ret
                  exact ⟨by rw [HX.out]; rfl, HB5.out.1⟩
            · have t4 : ((dgN p : Int) != (p.length : Int)) = true := by rw [bne_iff_ne]; omega
              have HX := Lib.hid (HA.out j p HP.out (octR_dig hd))
              go_wp2
              go_quiet ((go_at_call 170; with_reducible exact quietF8 (CDp.out _)))
              go_wp2
              go_ret
              exact ⟨by rw [HX.out]; rfl, below_drewN HB.out _⟩
      · have t1 : decide ((j : Int) < 4) = false := decide_eq_false (by omega)
        have HX := Lib.hid (show fourB l = true by
          have := HK.out.1
          rw [List.take_of_length_le (by omega)] at this
          rw [HF.out, decide_eq_true h4, this]; rfl)
        have HB := Lib.hid (show Below w.heap.size w wr from HR.out.2.trans (below_of_le hbw (by rw [← hMs.out]; exact HR.out.2.size)))
        go_wp2
        go_ret
        exact ⟨by rw [HX.out]; rfl, HB.out⟩
  · have t1 : ((L.length : Int) != 4) = true := by rw [bne_iff_ne]; omega
    have HX := Lib.hid (show fourB l = false by rw [HF.out, decide_eq_false h4]; rfl)
    go_enter Tryz.func154, Tryz.ntmps154
    go_wp2_with fail
    refine (CS.out).mono ?_; rintro e w1 ⟨A1, c1, rfl, hr, b1⟩
    go_wp2
    go_ret
    exact ⟨by rw [HX.out]; rfl, b1⟩
end Go.Proofs.YtpakmeegldgjmaaGreat
/- Layer 8 (host): Address, name, Canon; and the document's Address, Name, Canonical. -/
namespace Go.Proofs.YtpakmeegldgjmaaGreat
open Go.RowKit
set_option linter.unusedVariables false
set_option maxRecDepth 100000
attribute [local go_sem high] idx_bs cut_bs cut_from cut_to
attribute [local go_sem] bs_size bs_list bs_nil_list bs_get bs_cut

theorem addr_any (l : List UInt8) (hl : l.length ≤ 1000000) (w : World) : Calls Tryz.prog 140 #[.string (bs l)] w fun r w' => r = .returned (.bool (addrB l)) ∧ Below w.heap.size w w' := by
  have CF := Lib.hid (four_any l hl w)
  have CB := Lib.hid (fun w => bracket_any l hl w)
  have HX := Lib.hid (show addrB l = (fourB l || brackB l) from rfl)
  cases hf : fourB l with
  | true =>
    rw [hf] at CF HX
    go_enter Tryz.func140, Tryz.ntmps140
    go_wp2_with fail
    refine (CF.out).mono ?_; rintro e w1 ⟨rfl, b1⟩
    go_wp2
    go_ret
    exact ⟨by rw [HX.out]; rfl, b1⟩
  | false =>
    rw [hf] at CF HX
    go_enter Tryz.func140, Tryz.ntmps140
    go_wp2_with fail
    refine (CF.out).mono ?_; rintro e w1 ⟨rfl, b1⟩
    go_wp2_with fail
    refine (CB.out _).mono ?_; rintro e w2 ⟨rfl, b2⟩
    go_wp2
    go_ret
    exact ⟨by rw [HX.out]; rfl, b1.trans (below_of_le b2 b1.size)⟩
theorem raddr_any (l : List UInt8) (hl : l.length ≤ 1000000) (w : World) : Calls Tryz.prog 136 #[.string (bs l)] w fun r w' => r = .returned (.bool (addrB l)) ∧ Below w.heap.size w w' := by
  have CF := Lib.hid (rfour_any l hl w)
  have CB := Lib.hid (fun w => rbracket_any l hl w)
  have HX := Lib.hid (show addrB l = (fourB l || brackB l) from rfl)
  cases hf : fourB l with
  | true =>
    rw [hf] at CF HX
    go_enter Tryz.func136, Tryz.ntmps136
    go_wp2_with fail
    refine (CF.out).mono ?_; rintro e w1 ⟨rfl, b1⟩
    go_wp2
    go_ret
    exact ⟨by rw [HX.out]; rfl, b1⟩
  | false =>
    rw [hf] at CF HX
    go_enter Tryz.func136, Tryz.ntmps136
    go_wp2_with fail
    refine (CF.out).mono ?_; rintro e w1 ⟨rfl, b1⟩
    go_wp2_with fail
    refine (CB.out _).mono ?_; rintro e w2 ⟨rfl, rfl⟩
    go_wp2
    go_ret
    exact ⟨by rw [HX.out]; rfl, b1⟩
theorem split46 (l : List UInt8) (hl : l.length ≤ 1000000) (w : World) : Calls Tryz.prog 160 #[.string (bs l), .int .u8 46] w (SplE w (splitL 46 l)) := split_any l 46 hl w
theorem labs_at {l p : List UInt8} {j : Nat} (h : (splitL 46 l)[j]? = some p) (ho : labelB p = false) : labsB l = false := by
  unfold labsB
  rw [List.all_eq_false]
  exact ⟨p, List.mem_of_getElem? h, by rw [ho]; simp⟩
set_option maxHeartbeats 1000000 in
theorem name_any (l : List UInt8) (hl : l.length ≤ 1000000) (w : World) : Calls Tryz.prog 139 #[.string (bs l)] w fun r w' => r = .returned (.bool (nameB l)) ∧ Below w.heap.size w w' := by
  have CA := Lib.hid (addr_any l hl w)
  have CS := Lib.hid (fun w => split46 l hl w)
  have CL := Lib.hid (fun (p : List UInt8) (hp : p.length ≤ 1000000) w => label_any p hp w)
  have HE := Lib.hid (fun p (hp : p ∈ splitL 46 l) => splitL_el 46 l p hp)
  have HA := Lib.hid (fun (j : Nat) (p : List UInt8) (h : (splitL 46 l)[j]? = some p) (ho : labelB p = false) => labs_at h ho)
  have HF := Lib.hid (show labsB l = (splitL 46 l).all labelB from rfl)
  have hsl := Nat.le_trans (splitL_len 46 l) (Nat.succ_le_succ hl)
  have HV := Lib.hid (show nameB l = (decide (l.length ≤ 256) && !addrB l && labsB l) from rfl)
  generalize splitL 46 l = L at *
  by_cases h256 : l.length ≤ 256
  · have t1 : decide ((256 : Int) < (l.length : Int)) = false := decide_eq_false (by omega)
    have t1n : decide (256 < l.length) = false := decide_eq_false (by omega)
    cases ha : addrB l with
    | true =>
      rw [ha] at CA
      have HX := Lib.hid (show nameB l = false by rw [HV.out, ha]; simp)
      go_enter Tryz.func139, Tryz.ntmps139
      go_wp2_with fail
      refine (CA.out).mono ?_; rintro e w1 ⟨rfl, b1⟩
      go_wp2
      go_ret
      exact ⟨by rw [HX.out]; rfl, b1⟩
    | false =>
      rw [ha] at CA
      have HY := Lib.hid (show nameB l = labsB l by rw [HV.out, ha, decide_eq_true h256]; simp)
      go_enter Tryz.func139, Tryz.ntmps139
      go_wp2_with fail
      refine (CA.out).mono ?_; rintro e w1 ⟨rfl, b1⟩
      have B1 := Lib.hid b1
      clear b1
      go_wp2_with fail
      refine (CS.out _).mono ?_; rintro e w2 ⟨A1, c1, rfl, hr, b2⟩
      have HR := Lib.hid (And.intro hr (B1.out.trans (below_of_le b2 B1.out.size)))
      clear hr b2
      go_wp2
      go_loop [15] (fun i => ∃ j : Nat, j ≤ L.length ∧ i = .int .i64 j ∧ (L.take j).all labelB = true) (fun i => L.length - (intOf i).toNat)
      case atStart => exact ⟨0, by omega, rfl, by simp⟩
      case round =>
        obtain ⟨j, hj, rfl, hk⟩ := hrel
        have HK := Lib.hid hk
        clear hk
        by_cases hlt : j < L.length
        · obtain ⟨b, o, u, rfl, hb, hu, hc⟩ := HR.out.1.at_ hlt
          obtain ⟨p, hp⟩ : ∃ p, L[j]? = some p := ⟨L[j]'hlt, List.getElem?_eq_getElem _⟩
          rw [stv_get hp] at hu
          injection hu with hu
          subst hu
          have hpl : p.length ≤ 1000000 := Nat.le_trans (HE.out p (List.mem_of_getElem? hp)) hl
          have HP := Lib.hid hp
          clear hp
          have CLp := Lib.hid (CL.out p hpl)
          cases hx : labelB p with
          | true =>
            rw [hx] at CLp
            have HX := Lib.hid (all_take_step HK.out HP.out hx)
            go_wp2_with fail
            refine (CLp.out _).mono ?_; rintro e w3 ⟨rfl, rfl⟩
            go_wp2
            go_round
            case rel => exact ⟨j + 1, by omega, by go_num, HX.out⟩
            case measure => simp [intOf]; omega
          | false =>
            rw [hx] at CLp
            have HX := Lib.hid (HA.out j p HP.out hx)
            go_wp2_with fail
            refine (CLp.out _).mono ?_; rintro e w3 ⟨rfl, rfl⟩
            go_wp2
            go_ret
            exact ⟨by rw [HY.out, HX.out]; rfl, HR.out.2⟩
        · have HX := Lib.hid (show labsB l = true by
            have := HK.out
            rw [List.take_of_length_le (by omega)] at this
            rw [HF.out, this])
          go_wp2
          go_ret
          exact ⟨by rw [HY.out, HX.out]; rfl, HR.out.2⟩
  · have t1 : decide ((256 : Int) < (l.length : Int)) = true := decide_eq_true (by omega)
    have t1n : decide (256 < l.length) = true := decide_eq_true (by omega)
    have HX := Lib.hid (show nameB l = false by rw [HV.out, decide_eq_false h256]; rfl)
    go_enter Tryz.func139, Tryz.ntmps139
    go_wp2
    go_ret
    exact ⟨by rw [HX.out]; rfl, Below.refl _ _⟩
set_option maxHeartbeats 1000000 in
theorem rname_any (l : List UInt8) (hl : l.length ≤ 1000000) (w : World) : Calls Tryz.prog 135 #[.string (bs l)] w fun r w' => r = .returned (.bool (nameR l)) ∧ Below w.heap.size w w' := by
  have CA := Lib.hid (rfour_any l hl w)
  have CS := Lib.hid (fun w => rsplit46 l hl w)
  have CL := Lib.hid (fun (p : List UInt8) (hp : p.length ≤ 1000000) w => rlabel_any p hp w)
  have HE := Lib.hid (fun p (hp : p ∈ splitL 46 l) => splitL_el 46 l p hp)
  have HA := Lib.hid (fun (j : Nat) (p : List UInt8) (h : (splitL 46 l)[j]? = some p) (ho : labelB p = false) => labs_at h ho)
  have HF := Lib.hid (show labsB l = (splitL 46 l).all labelB from rfl)
  have hsl := Nat.le_trans (splitL_len 46 l) (Nat.succ_le_succ hl)
  have HV := Lib.hid (show nameR l = (decide (l.length ≤ 256) && !fourB l && labsB l) from rfl)
  generalize splitL 46 l = L at *
  by_cases h256 : l.length ≤ 256
  · have t1 : decide ((256 : Int) < (l.length : Int)) = false := decide_eq_false (by omega)
    have t1n : decide (256 < l.length) = false := decide_eq_false (by omega)
    cases ha : fourB l with
    | true =>
      rw [ha] at CA
      have HX := Lib.hid (show nameR l = false by rw [HV.out, ha]; simp)
      go_enter Tryz.func135, Tryz.ntmps135
      go_wp2_with fail
      refine (CA.out).mono ?_; rintro e w1 ⟨rfl, b1⟩
      go_wp2
      go_ret
      exact ⟨by rw [HX.out]; rfl, b1⟩
    | false =>
      rw [ha] at CA
      have HY := Lib.hid (show nameR l = labsB l by rw [HV.out, ha, decide_eq_true h256]; simp)
      go_enter Tryz.func135, Tryz.ntmps135
      go_wp2_with fail
      refine (CA.out).mono ?_; rintro e w1 ⟨rfl, b1⟩
      have B1 := Lib.hid b1
      clear b1
      go_wp2_with fail
      refine (CS.out _).mono ?_; rintro e w2 ⟨A1, c1, rfl, hr, b2⟩
      have HR := Lib.hid (And.intro hr (B1.out.trans (below_of_le b2 B1.out.size)))
      clear hr b2
      go_wp2
      go_loop [4] (fun i => ∃ j : Nat, j ≤ L.length ∧ i = .int .i64 j ∧ (L.take j).all labelB = true) (fun i => L.length - (intOf i).toNat)
      case atStart => exact ⟨0, by omega, rfl, by simp⟩
      case round =>
        obtain ⟨j, hj, rfl, hk⟩ := hrel
        have HK := Lib.hid hk
        clear hk
        by_cases hlt : j < L.length
        · obtain ⟨b, o, u, rfl, hb, hu, hc⟩ := HR.out.1.at_ hlt
          obtain ⟨p, hp⟩ : ∃ p, L[j]? = some p := ⟨L[j]'hlt, List.getElem?_eq_getElem _⟩
          rw [stv_get hp] at hu
          injection hu with hu
          subst hu
          have hpl : p.length ≤ 1000000 := Nat.le_trans (HE.out p (List.mem_of_getElem? hp)) hl
          have HP := Lib.hid hp
          clear hp
          have CLp := Lib.hid (CL.out p hpl)
          cases hx : labelB p with
          | true =>
            rw [hx] at CLp
            have HX := Lib.hid (all_take_step HK.out HP.out hx)
            go_wp2_with fail
            refine (CLp.out _).mono ?_; rintro e w3 ⟨rfl, rfl⟩
            go_wp2
            go_round
            case rel => exact ⟨j + 1, by omega, by go_num, HX.out⟩
            case measure => simp [intOf]; omega
          | false =>
            rw [hx] at CLp
            have HX := Lib.hid (HA.out j p HP.out hx)
            go_wp2_with fail
            refine (CLp.out _).mono ?_; rintro e w3 ⟨rfl, rfl⟩
            go_wp2
            go_ret
            exact ⟨by rw [HY.out, HX.out]; rfl, HR.out.2⟩
        · have HX := Lib.hid (show labsB l = true by
            have := HK.out
            rw [List.take_of_length_le (by omega)] at this
            rw [HF.out, this])
          go_wp2
          go_ret
          exact ⟨by rw [HY.out, HX.out]; rfl, HR.out.2⟩
  · have t1 : decide ((256 : Int) < (l.length : Int)) = true := decide_eq_true (by omega)
    have t1n : decide (256 < l.length) = true := decide_eq_true (by omega)
    have HX := Lib.hid (show nameR l = false by rw [HV.out, decide_eq_false h256]; rfl)
    go_enter Tryz.func135, Tryz.ntmps135
    go_wp2
    go_ret
    exact ⟨by rw [HX.out]; rfl, Below.refl _ _⟩
/-- What Canon tells. -/
def canE (l : List UInt8) : List UInt8 × Int := if 256 < l.length then ([], 3) else if nameB (lowL l) = false ∧ addrB (lowL l) = false then ([], 1) else (lowL l, 0)
theorem canon_e (l : List UInt8) : (decide ((canE l).2 = 0) && decide ((canE l).1 = l)) = canonB l := by
  rw [← canon_iff]
  unfold canE
  by_cases h : 256 < l.length
  · rw [if_pos h, decide_eq_false (by omega : ¬ l.length ≤ 256)]
    simp
  · rw [if_neg h, decide_eq_true (by omega : l.length ≤ 256)]
    cases h1 : nameB (lowL l) <;> cases h2 : addrB (lowL l) <;> simp
theorem canon_any (l : List UInt8) (hl : l.length ≤ 1000000) (w : World) : Calls Tryz.prog 111 #[.string (bs l)] w fun r w' => r = .returned (.tuple #[.string (bs (canE l).1), .int .i64 (canE l).2]) ∧ Below w.heap.size w w' := by
  have CL := Lib.hid (low_any l hl w)
  have hll : (lowL l).length ≤ 1000000 := by rw [lowL_len]; exact hl
  have CN := Lib.hid (fun w => name_any (lowL l) hll w)
  have CA := Lib.hid (fun w => addr_any (lowL l) hll w)
  unfold canE
  generalize lowL l = m at *
  by_cases h : 256 < l.length
  · have t1 : decide ((256 : Int) < (l.length : Int)) = true := decide_eq_true (by omega)
    rw [if_pos h]
    go_enter Tryz.func111, Tryz.ntmps111
    go_wp2
    go_ret2
    exact ⟨rfl, Below.refl _ _⟩
  · have t1 : decide ((256 : Int) < (l.length : Int)) = false := decide_eq_false (by omega)
    rw [if_neg h]
    cases hn : nameB m with
    | true =>
      rw [hn] at CN
      rw [if_neg (by simp)]
      go_enter Tryz.func111, Tryz.ntmps111
      go_wp2_with fail
      refine (CL.out).mono ?_; rintro e w1 ⟨rfl, b1⟩
      go_wp2_with fail
      refine (CN.out _).mono ?_; rintro e w2 ⟨rfl, b2⟩
      go_wp2
      go_ret2
      exact ⟨rfl, b1.trans (below_of_le b2 b1.size)⟩
    | false =>
      rw [hn] at CN
      cases ha : addrB m with
      | true =>
        rw [ha] at CA
        rw [if_neg (by simp)]
        go_enter Tryz.func111, Tryz.ntmps111
        go_wp2_with fail
        refine (CL.out).mono ?_; rintro e w1 ⟨rfl, b1⟩
        go_wp2_with fail
        refine (CN.out _).mono ?_; rintro e w2 ⟨rfl, b2⟩
        go_wp2_with fail
        refine (CA.out _).mono ?_; rintro e w3 ⟨rfl, b3⟩
        go_wp2
        go_ret2
        exact ⟨rfl, (b1.trans (below_of_le b2 b1.size)).trans (below_of_le b3 (Nat.le_trans b1.size b2.size))⟩
      | false =>
        rw [ha] at CA
        rw [if_pos (by simp)]
        go_enter Tryz.func111, Tryz.ntmps111
        go_wp2_with fail
        refine (CL.out).mono ?_; rintro e w1 ⟨rfl, b1⟩
        go_wp2_with fail
        refine (CN.out _).mono ?_; rintro e w2 ⟨rfl, b2⟩
        go_wp2_with fail
        refine (CA.out _).mono ?_; rintro e w3 ⟨rfl, b3⟩
        go_wp2
        go_ret2
        exact ⟨rfl, (b1.trans (below_of_le b2 b1.size)).trans (below_of_le b3 (Nat.le_trans b1.size b2.size))⟩
theorem rcanon_any (l : List UInt8) (hl : l.length ≤ 1000000) (w : World) : Calls Tryz.prog 105 #[.string (bs l)] w fun r w' => r = .returned (.bool (canonB l)) ∧ Below w.heap.size w w' := by
  have CN := Lib.hid (rname_any l hl w)
  have CA := Lib.hid (fun w => raddr_any l hl w)
  have HV := Lib.hid (show canonB l = (decide (l.length ≤ 256) && (nameR l || addrB l)) from rfl)
  by_cases h : l.length ≤ 256
  · have t1 : decide ((l.length : Int) ≤ 256) = true := decide_eq_true (by omega)
    have t1n : decide (l.length ≤ 256) = true := decide_eq_true h
    cases hn : nameR l with
    | true =>
      rw [hn] at CN HV
      go_enter Tryz.func105, Tryz.ntmps105
      go_wp2_with fail
      refine (CN.out).mono ?_; rintro e w1 ⟨rfl, b1⟩
      go_wp2
      go_ret
      exact ⟨by rw [HV.out, t1n]; rfl, b1⟩
    | false =>
      rw [hn] at CN HV
      go_enter Tryz.func105, Tryz.ntmps105
      go_wp2_with fail
      refine (CN.out).mono ?_; rintro e w1 ⟨rfl, b1⟩
      go_wp2_with fail
      refine (CA.out _).mono ?_; rintro e w2 ⟨rfl, b2⟩
      go_wp2
      go_ret
      exact ⟨by rw [HV.out, t1n]; rfl, b1.trans (below_of_le b2 b1.size)⟩
  · have t1 : decide ((l.length : Int) ≤ 256) = false := decide_eq_false (by omega)
    have t1n : decide (l.length ≤ 256) = false := decide_eq_false h
    go_enter Tryz.func105, Tryz.ntmps105
    go_wp2
    go_ret
    exact ⟨by rw [HV.out, t1n]; rfl, Below.refl _ _⟩
end Go.Proofs.YtpakmeegldgjmaaGreat
/- Events and messages, plain: may they be; their bytes. -/
namespace Go.Proofs.YtpakmeegldgjmaaGreat
set_option linter.unusedVariables false

/-- An event. -/
structure Ed where
  dot : Dt
  st : Int × Int × Int
  kind : Int
  name : List UInt8
  dom : List UInt8
  path : List UInt8
  value : List UInt8
  ho : Bool
  se : Bool
  ht : Bool
  pe : Bool
  exp : Int
  cre : Int
  acc : Int
  over : List Dt
/-- A text without controls, semicolons, and blanks at its ends. -/
def plainB (l : List UInt8) : Bool := !ctlL l && !hasB l 59 && endsB l
def timesB (pe : Bool) (exp cre acc : Int) : Bool := decide (-1099511627776 ≤ exp) && decide (exp ≤ 1099511627776) && decide (0 ≤ cre) && decide (cre ≤ 1099511627776) && decide (0 ≤ acc) && decide (acc ≤ 1099511627776) && (pe || decide (exp = 1099511627776))
/-- May a cookie be, with its key? -/
def itemB (name dom path value : List UInt8) (pe : Bool) (exp cre acc : Int) : Bool :=
  decide (name ≠ []) && decide (name.length ≤ 256) && plainB name && !hasB name 61 && decide (value.length ≤ 1024) && plainB value && canonB dom && (path.head?.any fun c => c.toNat == 47) && decide (path.length ≤ 256) && timesB pe exp cre acc
/-- May an event be over some dots? -/
def ovG (o : Dt) : Option Dt → List Dt → Bool
  | _, [] => true
  | p, d :: r => rightD d && (match p with | none => true | some q => dLt q d) && !(decide (d.1 = o.1) && decide (o.2 ≤ d.2)) && ovG o (some d) r
def overB (o : Dt) (l : List Dt) : Bool := decide (l.length ≤ 64) && ovG o none l
def zeroB (e : Ed) : Bool := decide (e.name = []) && decide (e.dom = []) && decide (e.path = []) && decide (e.value = []) && !e.ho && !e.se && !e.ht && !e.pe && decide (e.exp = 0) && decide (e.cre = 0) && decide (e.acc = 0)
/-- May an event be? -/
def evB (e : Ed) : Bool := rightD e.dot && stB e.st.1 e.st.2.1 e.st.2.2 && decide (e.st.2.2 = e.dot.1.1) && overB e.dot e.over &&
  (if e.kind = 2 then zeroB e && decide (e.over ≠ []) else if e.kind = 1 then itemB e.name e.dom e.path e.value e.pe e.exp e.cre e.acc else false)
/-- A text, packed. -/
def txP (l : List UInt8) : List UInt8 := vput l.length ++ l
def itP (e : Ed) : List UInt8 := txP e.name ++ (txP e.dom ++ (txP e.path ++ (txP e.value ++ (vput (foldI e.exp).toNat ++ (vput e.cre.toNat ++ vput e.acc.toNat)))))
/-- An event, packed. -/
def evP (e : Ed) : List UInt8 := dP e.dot ++ (stP e.st.1 e.st.2.1 e.st.2.2 ++ (flB [decide (e.kind = 1), e.ho, e.se, e.ht, e.pe] :: (vput e.over.length ++ (dsP e.over ++ if e.kind = 1 then itP e else []))))
/-- A message. -/
structure Md where
  kind : Int
  frm : Int
  dst : Int
  marks : List Dt
  evs : List Ed
def devB (n : Int) : Bool := decide (0 ≤ n) && decide (n < 64)
def riseG : Option Dt → List Ed → Bool
  | _, [] => true
  | p, e :: r => evB e && (match p with | none => true | some q => dLt q e.dot) && riseG (some e.dot) r
def riseB (l : List Ed) : Bool := riseG none l && decide (l.length ≤ 256)
/-- May a message be? -/
def msB (m : Md) : Bool := devB m.frm && devB m.dst && decide (m.frm ≠ m.dst) &&
  (if m.kind = 2 then decide (m.marks = []) && riseB m.evs else if m.kind = 1 ∨ m.kind = 3 then decide (m.evs = []) && decide (chkE m.marks = 0) else false)
/-- A message, packed; its bytes. -/
def msP (m : Md) : List UInt8 := vput m.kind.toNat ++ (vput m.frm.toNat ++ (vput m.dst.toNat ++ (nP m.marks ++ (vput m.evs.length ++ m.evs.flatMap evP))))
theorem riseG_mem {p : Option Dt} {l : List Ed} (h : riseG p l = true) : ∀ e ∈ l, evB e = true := by
  induction l generalizing p with
  | nil => intro e he; cases he
  | cons x r ih =>
    unfold riseG at h
    simp only [Bool.and_eq_true] at h
    intro e he
    rcases List.mem_cons.1 he with rfl | he
    · exact h.1.1
    · exact ih h.2 e he
theorem ovG_mem {o : Dt} {p : Option Dt} {l : List Dt} (h : ovG o p l = true) : ∀ d ∈ l, rightD d = true := by
  induction l generalizing p with
  | nil => intro e he; cases he
  | cons x r ih =>
    unfold ovG at h
    simp only [Bool.and_eq_true] at h
    intro e he
    rcases List.mem_cons.1 he with rfl | he
    · exact h.1.1.1
    · exact ih h.2 e he
theorem txP_len (l : List UInt8) (h : l.length < 18446744073709551616) : (txP l).length ≤ 10 + l.length := by
  unfold txP
  rw [List.length_append]
  have := vput_le h
  omega
end Go.Proofs.YtpakmeegldgjmaaGreat
/- Layer 14 (cookie): within, plain, Right; and the document's. -/
namespace Go.Proofs.YtpakmeegldgjmaaGreat
open Go.RowKit
set_option linter.unusedVariables false
set_option linter.unusedSimpArgs false
set_option maxRecDepth 100000
attribute [local go_sem high] idx_bs cut_bs cut_from cut_to
attribute [local go_sem] bs_size bs_list bs_nil_list bs_get bs_cut

theorem cut_bool (l : List UInt8) (c : Nat) (hl : l.length ≤ 1000000) (w : World) : Calls Tryz.prog 143 #[.string (bs l), .int .u8 (c : Int)] w fun e w' => e = .returned (.tuple #[.string (bs (l.take (fdN c l))), .string (bs (l.drop (fdN c l + 1))), .bool (hasB l c)]) ∧ Below w.heap.size w w' := by
  rw [hasB_fd]
  exact cut_any l c hl w
theorem kwithin_any (n a b : Int) (w : World) : Calls Tryz.prog 112 #[.int .i64 n, .int .i64 a, .int .i64 b] w fun r w' => r = .returned (.bool (decide (a ≤ n) && decide (n ≤ b))) ∧ w = w' := by
  by_cases h1 : a ≤ n
  · have t1 : decide (a ≤ n) = true := decide_eq_true h1
    by_cases h2 : n ≤ b
    · have t2 : decide (n ≤ b) = true := decide_eq_true h2
      rw [t1, t2]
      go_enter Tryz.func112, Tryz.ntmps112
      go_wp2
      go_ret
      exact ⟨rfl, rfl⟩
    · have t2 : decide (n ≤ b) = false := decide_eq_false h2
      rw [t1, t2]
      go_enter Tryz.func112, Tryz.ntmps112
      go_wp2
      go_ret
      exact ⟨rfl, rfl⟩
  · have t1 : decide (a ≤ n) = false := decide_eq_false h1
    rw [t1]
    go_enter Tryz.func112, Tryz.ntmps112
    go_wp2
    go_ret
    exact ⟨rfl, rfl⟩
/-- What 'plain' says. -/
def plB (l : List UInt8) (most : Nat) (S : List UInt8) : Bool := decide (l.length ≤ most) && !ctlL l && endsB l && S.all fun c => !hasB l c.toNat
theorem plain_any (l : List UInt8) (most : Nat) (hm : most ≤ 1000000) (S : List UInt8) (A : Option Addr) (n c : Nat) (hl : l.length ≤ 1000000) (w : World) (hr : Rd w w.heap.size 1 A n (bv S)) (hn : n ≤ 1000) :
    Calls Tryz.prog 113 #[.string (bs l), .int .i64 (most : Int), .slice A n c] w fun r w' => r = .returned (.bool (plB l most S)) ∧ Below w.heap.size w w' := by
  have CC := Lib.hid (fun w => control_any l hl w)
  have CT := Lib.hid (fun w => trim_any l hl w)
  have CX := Lib.hid (fun c w => cut_bool l c hl w)
  have HV := Lib.hid (show plB l most S = (decide (l.length ≤ most) && !ctlL l && endsB l && S.all fun c => !hasB l c.toNat) from rfl)
  have hSl : S.length = n := by have := hr.len; rw [bv_length] at this; exact this
  have HS := Lib.hid hSl
  have HR := Lib.hid hr
  have hte := Lib.hid (trim_ends l)
  clear hr hSl
  cases q1 : decide (l.length ≤ most) with
  | true =>
    have t1 : decide ((most : Int) < (l.length : Int)) = false := decide_eq_false (by have := of_decide_eq_true q1; omega)
    have t1n : decide (most < l.length) = false := decide_eq_false (by have := of_decide_eq_true q1; omega)
    cases q2 : ctlL l with
    | true =>
      go_enter Tryz.func113, Tryz.ntmps113
      go_wp2_with fail
      refine (CC.out _).mono ?_; rintro e w1 ⟨rfl, rfl⟩
      go_wp2
      go_ret
      exact ⟨by rw [HV.out, q2, q1]; simp, Below.refl _ _⟩
    | false =>
      cases q3 : endsB l with
      | true =>
        have t3 : (trimL l == l) = true := by have h := hte.out; rw [q3, decide_eq_true_eq] at h; rw [beq_iff_eq]; exact h
        go_enter Tryz.func113, Tryz.ntmps113
        go_wp2_with fail
        refine (CC.out _).mono ?_; rintro e w1 ⟨rfl, rfl⟩
        go_wp2_with fail
        refine (CT.out _).mono ?_; rintro e w2 ⟨rfl, rfl⟩
        go_wp2
        go_loopw [28] (fun i wr => ∃ j : Nat, j ≤ n ∧ i = .int .i64 j ∧ (∀ k, k < j → hasB l (ax S k) = false) ∧ Below w.heap.size w wr) (fun i _ => n - (intOf i).toNat)
        case atStart => exact ⟨0, by omega, rfl, fun k hk => absurd hk (by omega), Below.refl _ _⟩
        case round =>
          obtain ⟨j, hj, rfl, hk, hb⟩ := hrel
          have HK := Lib.hid (And.intro hk hb)
          by_cases hlt : j < n
          · obtain ⟨b, o, rfl, hbl, hc⟩ := (HR.out.below hb).byte hlt
            have hc' : wr.cell? ⟨b, o + j, none⟩ = some (.int .u8 (ax S j : Int)) := hc
            clear hk hb hc
            have CXj := Lib.hid (CX.out (ax S j))
            cases hx : hasB l (ax S j) with
            | true =>
              rw [hx] at CXj
              have HF := Lib.hid (show S.all (fun c => !hasB l c.toNat) = false from all_at (q := fun c => !hasB l c) (fun x => rfl) (by rw [HS.out]; exact hlt) (by show (!hasB l (ax S j)) = false; rw [hx]; rfl))
              go_wp2_with fail
              refine (CXj.out _).mono ?_; rintro e w3 ⟨rfl, b3⟩
              have B3 := Lib.hid (HK.out.2.trans (below_of_le b3 HK.out.2.size))
              clear b3
              go_wp2
              go_ret
              exact ⟨by rw [HV.out, HF.out]; simp, B3.out⟩
            | false =>
              rw [hx] at CXj
              have HF := Lib.hid (show ∀ k, k < j + 1 → hasB l (ax S k) = false from fun k hk' => by
                by_cases hkj : k = j
                · subst hkj; exact hx
                · exact HK.out.1 k (by omega))
              go_wp2_with fail
              refine (CXj.out _).mono ?_; rintro e w3 ⟨rfl, b3⟩
              have B3 := Lib.hid (HK.out.2.trans (below_of_le b3 HK.out.2.size))
              clear b3
              go_wp2
              go_roundw
              case rel => exact ⟨j + 1, by omega, by go_num, HF.out, B3.out⟩
              case measure => simp [intOf]; omega
          · have HF := Lib.hid (show S.all (fun c => !hasB l c.toNat) = true from all_yes (q := fun c => !hasB l c) (fun x => rfl) (fun k hk' => by show (!hasB l (ax S k)) = true; rw [HK.out.1 k (by have := HS.out; omega)]; rfl))
            clear hk hb
            go_wp2
            go_ret
            exact ⟨by rw [HV.out, q1, q2, q3, HF.out]; rfl, HK.out.2⟩
      | false =>
        have t3 : (trimL l == l) = false := by have h := hte.out; rw [q3, decide_eq_false_iff_not] at h; rw [beq_eq_false_iff_ne]; exact h
        go_enter Tryz.func113, Tryz.ntmps113
        go_wp2_with fail
        refine (CC.out _).mono ?_; rintro e w1 ⟨rfl, rfl⟩
        go_wp2_with fail
        refine (CT.out _).mono ?_; rintro e w2 ⟨rfl, rfl⟩
        go_wp2
        go_ret
        exact ⟨by rw [HV.out, q3, q2, q1]; simp, Below.refl _ _⟩
  | false =>
    have t1 : decide ((most : Int) < (l.length : Int)) = true := decide_eq_true (by have := of_decide_eq_false q1; omega)
    have t1n : decide (most < l.length) = true := decide_eq_true (by have := of_decide_eq_false q1; omega)
    go_enter Tryz.func113, Tryz.ntmps113
    go_wp2
    go_ret
    exact ⟨by rw [HV.out, q1]; simp, Below.refl _ _⟩
theorem rplain_any (l : List UInt8) (hl : l.length ≤ 1000000) (w : World) : Calls Tryz.prog 103 #[.string (bs l)] w fun r w' => r = .returned (.bool (plainB l)) ∧ w = w' := by
  have CC := Lib.hid (fun w => rcontrol_any l hl w)
  have CT := Lib.hid (fun w => rtrim_any l hl w)
  have CF0 := fun w => rfind_any l 59 hl w
  rw [show ((59 : Nat) : Int) = 59 from rfl] at CF0
  have CF := Lib.hid CF0
  clear CF0
  have HV := Lib.hid (show plainB l = (!ctlL l && !hasB l 59 && endsB l) from rfl)
  have hte := Lib.hid (trim_ends l)
  have hfd := Lib.hid (hasB_fd l 59)
  cases q2 : ctlL l with
  | true =>
    go_enter Tryz.func103, Tryz.ntmps103
    go_wp2_with fail
    refine (CC.out _).mono ?_; rintro e w1 ⟨rfl, rfl⟩
    go_wp2
    go_ret
    exact ⟨by rw [HV.out, q2]; rfl, rfl⟩
  | false =>
    cases q4 : hasB l 59 with
    | true =>
      have h := hfd.out
      rw [q4] at h
      rw [if_pos (of_decide_eq_true h.symm)] at CF
      have t4 : decide ((fdN 59 l : Int) < 0) = false := decide_eq_false (by omega)
      clear h
      go_enter Tryz.func103, Tryz.ntmps103
      go_wp2_with fail
      refine (CC.out _).mono ?_; rintro e w1 ⟨rfl, rfl⟩
      go_wp2_with fail
      refine (CF.out _).mono ?_; rintro e w2 ⟨rfl, rfl⟩
      go_wp2
      go_ret
      exact ⟨by rw [HV.out, q4, q2]; rfl, rfl⟩
    | false =>
      have h := hfd.out
      rw [q4] at h
      rw [if_neg (of_decide_eq_false h.symm)] at CF
      clear h
      cases q3 : endsB l with
      | true =>
        have t3 : (trimL l == l) = true := by have h := hte.out; rw [q3, decide_eq_true_eq] at h; rw [beq_iff_eq]; exact h
        go_enter Tryz.func103, Tryz.ntmps103
        go_wp2_with fail
        refine (CC.out _).mono ?_; rintro e w1 ⟨rfl, rfl⟩
        go_wp2_with fail
        refine (CF.out _).mono ?_; rintro e w2 ⟨rfl, rfl⟩
        go_wp2_with fail
        refine (CT.out _).mono ?_; rintro e w2 ⟨rfl, rfl⟩
        go_wp2
        go_ret
        exact ⟨by rw [HV.out, q2, q3, q4]; rfl, rfl⟩
      | false =>
        have t3 : (trimL l == l) = false := by have h := hte.out; rw [q3, decide_eq_false_iff_not] at h; rw [beq_eq_false_iff_ne]; exact h
        go_enter Tryz.func103, Tryz.ntmps103
        go_wp2_with fail
        refine (CC.out _).mono ?_; rintro e w1 ⟨rfl, rfl⟩
        go_wp2_with fail
        refine (CF.out _).mono ?_; rintro e w2 ⟨rfl, rfl⟩
        go_wp2_with fail
        refine (CT.out _).mono ?_; rintro e w2 ⟨rfl, rfl⟩
        go_wp2
        go_ret
        exact ⟨by rw [HV.out, q3, q4, q2]; rfl, rfl⟩
end Go.Proofs.YtpakmeegldgjmaaGreat
/- Layer 14 (cookie): Right. -/
namespace Go.Proofs.YtpakmeegldgjmaaGreat
open Go.RowKit
set_option linter.unusedVariables false
set_option linter.unusedSimpArgs false
set_option maxRecDepth 100000
attribute [local go_sem ↓] Go.wp_at_zero Go.wp_at_succ
attribute [local go_sem high] idx_bs cut_bs cut_from cut_to
attribute [local go_sem] bs_size bs_list bs_nil_list bs_get bs_cut

def keyC (e : Ed) : Array Value := #[.string (bs e.name), .string (bs e.dom), .string (bs e.path)]
def cookC (e : Ed) : Array Value := #[.string (bs e.value), .bool e.ho, .bool e.se, .bool e.ht, .bool e.pe, .int .i64 e.exp, .int .i64 e.cre, .int .i64 e.acc]
def itV (e : Ed) : Value := .agg #[.string (bs e.name), .string (bs e.dom), .string (bs e.path), .string (bs e.value), .bool e.ho, .bool e.se, .bool e.ht, .bool e.pe, .int .i64 e.exp, .int .i64 e.cre, .int .i64 e.acc]
/-- A key and a cookie in blocks of their own. -/
def KC (N : Nat) (w : World) (K C : Nat) (e : Ed) (W : World) : Prop := Whole W K 54 (keyC e) ∧ Whole W C 56 (cookC e) ∧ Below N w W ∧ N ≤ W.heap.size
section
variable {N K C : Nat} {w W W' : World} {e : Ed}
theorem KC.step (h : KC N w K C e W) (b : Below W.heap.size W W') : KC N w K C e W' :=
  ⟨h.1.below b h.1.lt, h.2.1.below b h.2.1.lt, h.2.2.1.trans (below_of_le b h.2.2.2), Nat.le_trans h.2.2.2 b.size⟩
theorem KC.stepA (h : KC N w K C e W) {o : Obj} (b : Below (W.alloc o).heap.size (W.alloc o) W') : KC N w K C e W' :=
  h.step (((Below.refl W.heap.size W).alloc (Nat.le_refl _) o).trans (below_of_le b (by simp)))
theorem KC.drew (h : KC N w K C e W) : KC N w K C e W.drew := ⟨h.1.drew, h.2.1.drew, h.2.2.1.drew, h.2.2.2⟩
theorem KC.cells (h : KC N w K C e W) : W.cell? ⟨K, 0, none⟩ = some (.string (bs e.name)) ∧ W.cell? ⟨K, 1, none⟩ = some (.string (bs e.dom)) ∧ W.cell? ⟨K, 2, none⟩ = some (.string (bs e.path)) ∧ W.cell? ⟨C, 0, none⟩ = some (.string (bs e.value)) ∧ W.cell? ⟨C, 4, none⟩ = some (.bool e.pe) ∧ W.cell? ⟨C, 5, none⟩ = some (.int .i64 e.exp) ∧ W.cell? ⟨C, 6, none⟩ = some (.int .i64 e.cre) ∧ W.cell? ⟨C, 7, none⟩ = some (.int .i64 e.acc) := by
  refine ⟨?_, ?_, ?_, ?_, ?_, ?_, ?_, ?_⟩
  all_goals first | (rw [h.1.cell]; rfl) | (rw [h.2.1.cell]; rfl)
end
theorem plB_name (l : List UInt8) : plB l 256 [59, 61] = (decide (l.length ≤ 256) && (plainB l && !hasB l 61)) := by
  unfold plB plainB
  simp only [List.all_cons, List.all_nil, Bool.and_true]
  show (decide (l.length ≤ 256) && !ctlL l && endsB l && (!hasB l 59 && !hasB l 61)) = _
  cases decide (l.length ≤ 256) <;> cases ctlL l <;> cases endsB l <;> cases hasB l 59 <;> cases hasB l 61 <;> rfl
theorem plB_value (l : List UInt8) : plB l 1024 [59] = (decide (l.length ≤ 1024) && plainB l) := by
  unfold plB plainB
  simp only [List.all_cons, List.all_nil, Bool.and_true]
  show (decide (l.length ≤ 1024) && !ctlL l && endsB l && !hasB l 59) = _
  cases decide (l.length ≤ 1024) <;> cases ctlL l <;> cases endsB l <;> cases hasB l 59 <;> rfl
theorem dec_beq_nil (l : List UInt8) : decide (l ≠ []) = !(l == []) := by cases l <;> rfl
theorem path_ax (l : List UInt8) : (l.head?.any fun c => c.toNat == 47) = (!(l == []) && (ax l 0 == 47)) := by cases l <;> rfl
theorem itemB_eq (name dom path value : List UInt8) (pe : Bool) (exp cre acc : Int) : itemB name dom path value pe exp cre acc =
    (!(name == []) && plB name 256 [59, 61] && plB value 1024 [59] && ((canE dom).2 == 0) && ((canE dom).1 == dom) && !(path == []) && (ax path 0 == 47) && decide (path.length ≤ 256) && timesB pe exp cre acc) := by
  unfold itemB
  rw [dec_beq_nil, path_ax, ← canon_e, plB_name, plB_value]
  have e1 : decide ((canE dom).2 = 0) = ((canE dom).2 == 0) := by rw [Bool.eq_iff_iff]; simp
  have e2 : decide ((canE dom).1 = dom) = ((canE dom).1 == dom) := by rw [Bool.eq_iff_iff]; simp
  rw [e1, e2]
  cases (name == []) <;> cases decide (name.length ≤ 256) <;> cases plainB name <;> cases hasB name 61 <;> cases decide (value.length ≤ 1024) <;> cases plainB value <;> cases ((canE dom).2 == 0) <;> cases ((canE dom).1 == dom) <;> cases (path == []) <;> simp
def timB (pe : Bool) (exp cre acc : Int) : Bool := (decide (-1099511627776 ≤ exp) && decide (exp ≤ 1099511627776)) && (decide (0 ≤ cre) && decide (cre ≤ 1099511627776)) && (decide (0 ≤ acc) && decide (acc ≤ 1099511627776)) && (pe || (exp == 1099511627776))
theorem timB_eq (pe : Bool) (exp cre acc : Int) : timesB pe exp cre acc = timB pe exp cre acc := by
  unfold timesB timB
  have e1 : decide (exp = 1099511627776) = (exp == 1099511627776) := by rw [Bool.eq_iff_iff]; simp
  rw [e1]
  cases decide (-1099511627776 ≤ exp) <;> cases decide (exp ≤ 1099511627776) <;> cases decide (0 ≤ cre) <;> cases decide (cre ≤ 1099511627776) <;> simp
set_option maxHeartbeats 4000000 in
theorem cright14_any (e : Ed) (w : World) (h1 : e.name.length ≤ 1000000) (h2 : e.dom.length ≤ 1000000) (h3 : e.path.length ≤ 1000000) (h4 : e.value.length ≤ 1000000) :
    Calls Tryz.prog 88 #[itV e] w fun r w' => r = .returned (.bool (itemB e.name e.dom e.path e.value e.pe e.exp e.cre e.acc)) ∧ Below w.heap.size w w' := by
  have CC := Lib.hid (fun w => canon_any e.dom h2 w)
  have CW := Lib.hid (fun n a b w => kwithin_any n a b w)
  have CP1 := Lib.hid (fun W : World => plain_any e.name 256 (by omega) [59, 61] (some ⟨W.heap.size, 0, none⟩) 2 2 h1 (W.alloc (.cells #[.int .u8 59, .int .u8 61] 5)) ((Rd.fresh W #[.int .u8 59, .int .u8 61] 5 2 rfl).more (by simp)) (by omega))
  have CP2 := Lib.hid (fun W : World => plain_any e.value 1024 (by omega) [59] (some ⟨W.heap.size, 0, none⟩) 1 1 h4 (W.alloc (.cells #[.int .u8 59] 5)) ((Rd.fresh W #[.int .u8 59] 5 1 rfl).more (by simp)) (by omega))
  rw [itemB_eq, timB_eq]
  rw [show ((256 : Nat) : Int) = 256 from rfl] at CP1
  rw [show ((1024 : Nat) : Int) = 1024 from rfl] at CP2
  have HT := Lib.hid (show timB e.pe e.exp e.cre e.acc = _ from rfl)
  generalize hT : timB e.pe e.exp e.cre e.acc = T at *
  have HT2 := Lib.hid hT
  clear hT
  generalize hV : (!(e.name == []) && plB e.name 256 [59, 61] && plB e.value 1024 [59] && ((canE e.dom).2 == 0) && ((canE e.dom).1 == e.dom) && !(e.path == []) && (ax e.path 0 == 47) && decide (e.path.length ≤ 256) && T) = V
  have HV := Lib.hid hV.symm
  clear hV
  generalize plB e.name 256 [59, 61] = P1 at *
  generalize plB e.value 1024 [59] = P2 at *
  generalize canE e.dom = dx at *
  obtain ⟨d, x⟩ := dx
  simp only at HV CC
  have hI := (Below.refl w.heap.size w).alloc (Nat.le_refl _) (.cells #[.string (bs e.name), .string (bs e.dom), .string (bs e.path), .string (bs e.value), .bool e.ho, .bool e.se, .bool e.ht, .bool e.pe, .int .i64 e.exp, .int .i64 e.cre, .int .i64 e.acc] 121)
  have hK1 : KC w.heap.size w (w.heap.size + 1) (w.heap.size + 1 + 1) e (((w.alloc (.cells #[.string (bs e.name), .string (bs e.dom), .string (bs e.path), .string (bs e.value), .bool e.ho, .bool e.se, .bool e.ht, .bool e.pe, .int .i64 e.exp, .int .i64 e.cre, .int .i64 e.acc] 121)).alloc (.cells (keyC e) 54)).alloc (.cells (cookC e) 56)) := by
    have a := (Whole.new (w.alloc (.cells #[.string (bs e.name), .string (bs e.dom), .string (bs e.path), .string (bs e.value), .bool e.ho, .bool e.se, .bool e.ht, .bool e.pe, .int .i64 e.exp, .int .i64 e.cre, .int .i64 e.acc] 121)) 54 (keyC e)).alloc (.cells (cookC e) 56)
    have b := Whole.new ((w.alloc (.cells #[.string (bs e.name), .string (bs e.dom), .string (bs e.path), .string (bs e.value), .bool e.ho, .bool e.se, .bool e.ht, .bool e.pe, .int .i64 e.exp, .int .i64 e.cre, .int .i64 e.acc] 121)).alloc (.cells (keyC e) 54)) 56 (cookC e)
    simp only [World.size_alloc] at a b
    exact ⟨a, b, (hI.alloc (by simp) _).alloc (by simp; omega) _, by simp; omega⟩
  have hK2 : KC w.heap.size w (w.heap.size + 1 + 1) (w.heap.size + 1) e (((w.alloc (.cells #[.string (bs e.name), .string (bs e.dom), .string (bs e.path), .string (bs e.value), .bool e.ho, .bool e.se, .bool e.ht, .bool e.pe, .int .i64 e.exp, .int .i64 e.cre, .int .i64 e.acc] 121)).alloc (.cells (cookC e) 56)).alloc (.cells (keyC e) 54)) := by
    have a := (Whole.new (w.alloc (.cells #[.string (bs e.name), .string (bs e.dom), .string (bs e.path), .string (bs e.value), .bool e.ho, .bool e.se, .bool e.ht, .bool e.pe, .int .i64 e.exp, .int .i64 e.cre, .int .i64 e.acc] 121)) 56 (cookC e)).alloc (.cells (keyC e) 54)
    have b := Whole.new ((w.alloc (.cells #[.string (bs e.name), .string (bs e.dom), .string (bs e.path), .string (bs e.value), .bool e.ho, .bool e.se, .bool e.ht, .bool e.pe, .int .i64 e.exp, .int .i64 e.cre, .int .i64 e.acc] 121)).alloc (.cells (cookC e) 56)) 54 (keyC e)
    simp only [World.size_alloc] at a b
    exact ⟨b, a, (hI.alloc (by simp) _).alloc (by simp; omega) _, by simp; omega⟩
  have HK1 := Lib.hid hK1
  have HK2 := Lib.hid hK2
  clear hI hK1 hK2
  generalize hN : w.heap.size = N at *
  have HN := Lib.hid hN
  clear hN
  unfold itV
  go_enter Tryz.func88, Tryz.ntmps88
  go_upto_region 1 with fail
  go_cut [3, 4] from 8 to 11 (fun p q wx => ∃ K C, p = .pointer (some ⟨K, 0, none⟩) ∧ q = .pointer (some ⟨C, 0, none⟩) ∧ KC N w K C e wx)
  case first =>
    go_region
    all_goals (go_wp2; go_meet)
    · exact ⟨_, _, rfl, rfl, by rw [HN.out]; exact HK1.out.drew⟩
    · exact ⟨_, _, rfl, rfl, by rw [HN.out]; exact HK2.out.drew⟩
  case rest =>
    obtain ⟨K, C, rfl, rfl, hKC⟩ := hcut
    have hKC := Lib.hid hKC
    clear HK1 HK2
    obtain ⟨k0, k1, k2, c0, c4, c5, c6, c7⟩ := hKC.out.cells
    go_wp2_with fail
    refine (CC.out _).mono ?_; rintro r w1 ⟨rfl, b1⟩
    clear k0 k1 k2 c0 c4 c5 c6 c7
    replace hKC := Lib.hid (hKC.out.step b1)
    clear b1 CC
    obtain ⟨k0, k1, k2, c0, c4, c5, c6, c7⟩ := hKC.out.cells
    go_upto_region 3 with fail
    go_cut [7] from 18 to 39 (fun v wx => v = .bool T ∧ wx = w1)
    case first =>
      have HT3 := HT2.out
      unfold timB at HT3
      have CW1 := Lib.hid (CW.out e.exp (-1099511627776) 1099511627776)
      have CW2 := Lib.hid (CW.out e.cre 0 1099511627776)
      have CW3 := Lib.hid (CW.out e.acc 0 1099511627776)
      generalize (decide (-1099511627776 ≤ e.exp) && decide (e.exp ≤ 1099511627776)) = B1 at *
      generalize (decide (0 ≤ e.cre) && decide (e.cre ≤ 1099511627776)) = B2 at *
      generalize (decide (0 ≤ e.acc) && decide (e.acc ≤ 1099511627776)) = B3 at *
      have HT4 := Lib.hid HT3.symm
      clear HT3 HT HT2 CW
      obtain ⟨pe', hpe⟩ : ∃ p : Bool, p = e.pe := ⟨_, rfl⟩
      rw [← hpe] at c4
      have HPE := Lib.hid hpe
      clear hpe
      cases q1 : B1 with
      | true =>
        cases q2 : B2 with
        | true =>
          cases q3 : B3 with
          | true =>
            cases pe' with
            | true =>
              go_wp2_with fail
              refine (CW1.out _).mono ?_; rintro r w2 ⟨rfl, rfl⟩
              go_wp2_with fail
              refine (CW2.out _).mono ?_; rintro r w3 ⟨rfl, rfl⟩
              go_wp2_with fail
              refine (CW3.out _).mono ?_; rintro r w4 ⟨rfl, rfl⟩
              go_wp2
              go_meet
              exact ⟨by rw [HT4.out, ← HPE.out]; simp [q1, q2, q3], rfl⟩
            | false =>
              cases q5 : (e.exp == 1099511627776) with
              | true =>
                go_wp2_with fail
                refine (CW1.out _).mono ?_; rintro r w2 ⟨rfl, rfl⟩
                go_wp2_with fail
                refine (CW2.out _).mono ?_; rintro r w3 ⟨rfl, rfl⟩
                go_wp2_with fail
                refine (CW3.out _).mono ?_; rintro r w4 ⟨rfl, rfl⟩
                go_wp2
                go_meet
                exact ⟨by rw [HT4.out, ← HPE.out]; simp [q1, q2, q3, q5], rfl⟩
              | false =>
                go_wp2_with fail
                refine (CW1.out _).mono ?_; rintro r w2 ⟨rfl, rfl⟩
                go_wp2_with fail
                refine (CW2.out _).mono ?_; rintro r w3 ⟨rfl, rfl⟩
                go_wp2_with fail
                refine (CW3.out _).mono ?_; rintro r w4 ⟨rfl, rfl⟩
                go_wp2
                go_meet
                exact ⟨by rw [HT4.out, ← HPE.out]; simp [q1, q2, q3, q5], rfl⟩
          | false =>
            go_wp2_with fail
            refine (CW1.out _).mono ?_; rintro r w2 ⟨rfl, rfl⟩
            go_wp2_with fail
            refine (CW2.out _).mono ?_; rintro r w3 ⟨rfl, rfl⟩
            go_wp2_with fail
            refine (CW3.out _).mono ?_; rintro r w4 ⟨rfl, rfl⟩
            go_wp2
            go_meet
            exact ⟨by rw [HT4.out, ← HPE.out]; simp [q1, q2, q3], rfl⟩
        | false =>
          go_wp2_with fail
          refine (CW1.out _).mono ?_; rintro r w2 ⟨rfl, rfl⟩
          go_wp2_with fail
          refine (CW2.out _).mono ?_; rintro r w3 ⟨rfl, rfl⟩
          go_wp2
          go_meet
          exact ⟨by rw [HT4.out, ← HPE.out]; simp [q1, q2], rfl⟩
      | false =>
        go_wp2_with fail
        refine (CW1.out _).mono ?_; rintro r w2 ⟨rfl, rfl⟩
        go_wp2
        go_meet
        exact ⟨by rw [HT4.out, ← HPE.out]; simp [q1], rfl⟩
    case rest =>
      obtain ⟨rfl, rfl⟩ := hcut
      clear HT HT2 CW
      cases q0 : (e.name == []) with
      | true =>
        go_wp2
        go_ret
        exact ⟨by rw [HV.out]; simp [q0], HN.out ▸ hKC.out.2.2.1⟩
      | false =>
        cases q1 : P1 with
        | true =>
          cases q2 : P2 with
          | true =>
            cases q3 : (x == 0) with
            | true =>
              cases q4 : (d == e.dom) with
              | true =>
                cases q5 : (e.path == []) with
                | true =>
                  go_wp2_with fail
                  refine (CP1.out _).mono ?_; rintro r w2 ⟨rfl, b2⟩
                  clear k0 k1 k2 c0 c4 c5 c6 c7
                  replace hKC := Lib.hid (hKC.out.stepA b2)
                  clear b2
                  obtain ⟨k0, k1, k2, c0, c4, c5, c6, c7⟩ := hKC.out.cells
                  go_wp2_with fail
                  refine (CP2.out _).mono ?_; rintro r w3 ⟨rfl, b3⟩
                  clear k0 k1 k2 c0 c4 c5 c6 c7
                  replace hKC := Lib.hid (hKC.out.stepA b3)
                  clear b3
                  obtain ⟨k0, k1, k2, c0, c4, c5, c6, c7⟩ := hKC.out.cells
                  go_wp2
                  go_ret
                  exact ⟨by rw [HV.out]; simp [q0, q1, q2, q3, q4, q5], HN.out ▸ hKC.out.2.2.1⟩
                | false =>
                  have hp : (0 : Int) < (e.path.length : Int) := by
                    have : e.path ≠ [] := by intro h; rw [h] at q5; cases q5
                    have := List.length_pos_iff.2 this
                    omega
                  cases q6 : (ax e.path 0 == 47) with
                  | true =>
                    have t6 : ((ax e.path 0 : Int) == 47) = true := by rw [beq_iff_eq] at q6; rw [beq_iff_eq]; omega
                    cases q7 : decide (e.path.length ≤ 256) with
                    | true =>
                      have t7 : decide ((e.path.length : Int) ≤ 256) = true := decide_eq_true (by have := of_decide_eq_true q7; omega)
                      cases q8 : T with
                      | true =>
                        go_wp2_with fail
                        refine (CP1.out _).mono ?_; rintro r w2 ⟨rfl, b2⟩
                        clear k0 k1 k2 c0 c4 c5 c6 c7
                        replace hKC := Lib.hid (hKC.out.stepA b2)
                        clear b2
                        obtain ⟨k0, k1, k2, c0, c4, c5, c6, c7⟩ := hKC.out.cells
                        go_wp2_with fail
                        refine (CP2.out _).mono ?_; rintro r w3 ⟨rfl, b3⟩
                        clear k0 k1 k2 c0 c4 c5 c6 c7
                        replace hKC := Lib.hid (hKC.out.stepA b3)
                        clear b3
                        obtain ⟨k0, k1, k2, c0, c4, c5, c6, c7⟩ := hKC.out.cells
                        go_wp2
                        go_ret
                        exact ⟨by rw [HV.out]; simp [q0, q1, q2, q3, q4, q5, q6, q7, q8], HN.out ▸ hKC.out.2.2.1⟩
                      | false =>
                        go_wp2_with fail
                        refine (CP1.out _).mono ?_; rintro r w2 ⟨rfl, b2⟩
                        clear k0 k1 k2 c0 c4 c5 c6 c7
                        replace hKC := Lib.hid (hKC.out.stepA b2)
                        clear b2
                        obtain ⟨k0, k1, k2, c0, c4, c5, c6, c7⟩ := hKC.out.cells
                        go_wp2_with fail
                        refine (CP2.out _).mono ?_; rintro r w3 ⟨rfl, b3⟩
                        clear k0 k1 k2 c0 c4 c5 c6 c7
                        replace hKC := Lib.hid (hKC.out.stepA b3)
                        clear b3
                        obtain ⟨k0, k1, k2, c0, c4, c5, c6, c7⟩ := hKC.out.cells
                        go_wp2
                        go_ret
                        exact ⟨by rw [HV.out]; simp [q0, q1, q2, q3, q4, q5, q6, q7, q8], HN.out ▸ hKC.out.2.2.1⟩
                    | false =>
                      have t7 : decide ((e.path.length : Int) ≤ 256) = false := decide_eq_false (by have := of_decide_eq_false q7; omega)
                      go_wp2_with fail
                      refine (CP1.out _).mono ?_; rintro r w2 ⟨rfl, b2⟩
                      clear k0 k1 k2 c0 c4 c5 c6 c7
                      replace hKC := Lib.hid (hKC.out.stepA b2)
                      clear b2
                      obtain ⟨k0, k1, k2, c0, c4, c5, c6, c7⟩ := hKC.out.cells
                      go_wp2_with fail
                      refine (CP2.out _).mono ?_; rintro r w3 ⟨rfl, b3⟩
                      clear k0 k1 k2 c0 c4 c5 c6 c7
                      replace hKC := Lib.hid (hKC.out.stepA b3)
                      clear b3
                      obtain ⟨k0, k1, k2, c0, c4, c5, c6, c7⟩ := hKC.out.cells
                      go_wp2
                      go_ret
                      exact ⟨by rw [HV.out]; simp [q0, q1, q2, q3, q4, q5, q6, q7], HN.out ▸ hKC.out.2.2.1⟩
                  | false =>
                    have t6 : ((ax e.path 0 : Int) == 47) = false := by rw [beq_eq_false_iff_ne] at q6; rw [beq_eq_false_iff_ne]; omega
                    go_wp2_with fail
                    refine (CP1.out _).mono ?_; rintro r w2 ⟨rfl, b2⟩
                    clear k0 k1 k2 c0 c4 c5 c6 c7
                    replace hKC := Lib.hid (hKC.out.stepA b2)
                    clear b2
                    obtain ⟨k0, k1, k2, c0, c4, c5, c6, c7⟩ := hKC.out.cells
                    go_wp2_with fail
                    refine (CP2.out _).mono ?_; rintro r w3 ⟨rfl, b3⟩
                    clear k0 k1 k2 c0 c4 c5 c6 c7
                    replace hKC := Lib.hid (hKC.out.stepA b3)
                    clear b3
                    obtain ⟨k0, k1, k2, c0, c4, c5, c6, c7⟩ := hKC.out.cells
                    go_wp2
                    go_ret
                    exact ⟨by rw [HV.out]; simp [q0, q1, q2, q3, q4, q5, q6], HN.out ▸ hKC.out.2.2.1⟩
              | false =>
                go_wp2_with fail
                refine (CP1.out _).mono ?_; rintro r w2 ⟨rfl, b2⟩
                clear k0 k1 k2 c0 c4 c5 c6 c7
                replace hKC := Lib.hid (hKC.out.stepA b2)
                clear b2
                obtain ⟨k0, k1, k2, c0, c4, c5, c6, c7⟩ := hKC.out.cells
                go_wp2_with fail
                refine (CP2.out _).mono ?_; rintro r w3 ⟨rfl, b3⟩
                clear k0 k1 k2 c0 c4 c5 c6 c7
                replace hKC := Lib.hid (hKC.out.stepA b3)
                clear b3
                obtain ⟨k0, k1, k2, c0, c4, c5, c6, c7⟩ := hKC.out.cells
                go_wp2
                go_ret
                exact ⟨by rw [HV.out]; simp [q0, q1, q2, q3, q4], HN.out ▸ hKC.out.2.2.1⟩
            | false =>
              go_wp2_with fail
              refine (CP1.out _).mono ?_; rintro r w2 ⟨rfl, b2⟩
              clear k0 k1 k2 c0 c4 c5 c6 c7
              replace hKC := Lib.hid (hKC.out.stepA b2)
              clear b2
              obtain ⟨k0, k1, k2, c0, c4, c5, c6, c7⟩ := hKC.out.cells
              go_wp2_with fail
              refine (CP2.out _).mono ?_; rintro r w3 ⟨rfl, b3⟩
              clear k0 k1 k2 c0 c4 c5 c6 c7
              replace hKC := Lib.hid (hKC.out.stepA b3)
              clear b3
              obtain ⟨k0, k1, k2, c0, c4, c5, c6, c7⟩ := hKC.out.cells
              go_wp2
              go_ret
              exact ⟨by rw [HV.out]; simp [q0, q1, q2, q3], HN.out ▸ hKC.out.2.2.1⟩
          | false =>
            go_wp2_with fail
            refine (CP1.out _).mono ?_; rintro r w2 ⟨rfl, b2⟩
            clear k0 k1 k2 c0 c4 c5 c6 c7
            replace hKC := Lib.hid (hKC.out.stepA b2)
            clear b2
            obtain ⟨k0, k1, k2, c0, c4, c5, c6, c7⟩ := hKC.out.cells
            go_wp2_with fail
            refine (CP2.out _).mono ?_; rintro r w3 ⟨rfl, b3⟩
            clear k0 k1 k2 c0 c4 c5 c6 c7
            replace hKC := Lib.hid (hKC.out.stepA b3)
            clear b3
            obtain ⟨k0, k1, k2, c0, c4, c5, c6, c7⟩ := hKC.out.cells
            go_wp2
            go_ret
            exact ⟨by rw [HV.out]; simp [q0, q1, q2], HN.out ▸ hKC.out.2.2.1⟩
        | false =>
          go_wp2_with fail
          refine (CP1.out _).mono ?_; rintro r w2 ⟨rfl, b2⟩
          clear k0 k1 k2 c0 c4 c5 c6 c7
          replace hKC := Lib.hid (hKC.out.stepA b2)
          clear b2
          obtain ⟨k0, k1, k2, c0, c4, c5, c6, c7⟩ := hKC.out.cells
          go_wp2
          go_ret
          exact ⟨by rw [HV.out]; simp [q0, q1], HN.out ▸ hKC.out.2.2.1⟩
end Go.Proofs.YtpakmeegldgjmaaGreat
/- Layer 14 (cookie): the document's Right. -/
namespace Go.Proofs.YtpakmeegldgjmaaGreat
open Go.RowKit
set_option linter.unusedVariables false
set_option linter.unusedSimpArgs false
set_option maxRecDepth 100000
attribute [local go_sem ↓] Go.wp_at_zero Go.wp_at_succ
attribute [local go_sem high] idx_bs cut_bs cut_from cut_to
attribute [local go_sem] bs_size bs_list bs_nil_list bs_get bs_cut

theorem kc_new (e : Ed) (w : World) : KC w.heap.size w (w.heap.size + 1) (w.heap.size + 1 + 1) e (((w.alloc (.cells #[.string (bs e.name), .string (bs e.dom), .string (bs e.path), .string (bs e.value), .bool e.ho, .bool e.se, .bool e.ht, .bool e.pe, .int .i64 e.exp, .int .i64 e.cre, .int .i64 e.acc] 121)).alloc (.cells #[.string (bs e.name), .string (bs e.dom), .string (bs e.path)] 54)).alloc (.cells #[.string (bs e.value), .bool e.ho, .bool e.se, .bool e.ht, .bool e.pe, .int .i64 e.exp, .int .i64 e.cre, .int .i64 e.acc] 56)) := by
  have hI := (Below.refl w.heap.size w).alloc (Nat.le_refl _) (.cells #[.string (bs e.name), .string (bs e.dom), .string (bs e.path), .string (bs e.value), .bool e.ho, .bool e.se, .bool e.ht, .bool e.pe, .int .i64 e.exp, .int .i64 e.cre, .int .i64 e.acc] 121)
  have a := (Whole.new (w.alloc (.cells #[.string (bs e.name), .string (bs e.dom), .string (bs e.path), .string (bs e.value), .bool e.ho, .bool e.se, .bool e.ht, .bool e.pe, .int .i64 e.exp, .int .i64 e.cre, .int .i64 e.acc] 121)) 54 (keyC e)).alloc (.cells (cookC e) 56)
  have b := Whole.new ((w.alloc (.cells #[.string (bs e.name), .string (bs e.dom), .string (bs e.path), .string (bs e.value), .bool e.ho, .bool e.se, .bool e.ht, .bool e.pe, .int .i64 e.exp, .int .i64 e.cre, .int .i64 e.acc] 121)).alloc (.cells (keyC e) 54)) 56 (cookC e)
  simp only [World.size_alloc] at a b
  exact ⟨a, b, (hI.alloc (by simp) _).alloc (by simp; omega) _, by simp; omega⟩
theorem itemB_doc (name dom path value : List UInt8) (pe : Bool) (exp cre acc : Int) : itemB name dom path value pe exp cre acc =
    (!(name == []) && decide (name.length ≤ 256) && plainB name && !hasB name 61 && decide (value.length ≤ 1024) && plainB value && canonB dom && !(path == []) && (ax path 0 == 47) && decide (path.length ≤ 256) &&
      (decide (-1099511627776 ≤ exp) && decide (exp ≤ 1099511627776) && decide (0 ≤ cre) && decide (cre ≤ 1099511627776) && decide (0 ≤ acc) && decide (acc ≤ 1099511627776) && (pe || (exp == 1099511627776)))) := by
  unfold itemB timesB
  have e1 : decide (exp = 1099511627776) = (exp == 1099511627776) := by rw [Bool.eq_iff_iff]; simp
  rw [dec_beq_nil, path_ax, e1]
  cases (name == []) <;> cases (path == []) <;> simp
set_option maxHeartbeats 8000000 in
theorem rright14_any (e : Ed) (w : World) (h1 : e.name.length ≤ 1000000) (h2 : e.dom.length ≤ 1000000) (h3 : e.path.length ≤ 1000000) (h4 : e.value.length ≤ 1000000) :
    Calls Tryz.prog 70 #[itV e] w fun r w' => r = .returned (.bool (itemB e.name e.dom e.path e.value e.pe e.exp e.cre e.acc)) ∧ Below w.heap.size w w' := by
  have CC := Lib.hid (fun w => rcanon_any e.dom h2 w)
  have CP1 := Lib.hid (fun w => rplain_any e.name h1 w)
  have CP2 := Lib.hid (fun w => rplain_any e.value h4 w)
  have CF0 := fun w => rfind_any e.name 61 h1 w
  rw [show ((61 : Nat) : Int) = 61 from rfl] at CF0
  have CF := Lib.hid CF0
  clear CF0
  have hfd := Lib.hid (hasB_fd e.name 61)
  rw [itemB_doc]
  generalize hV : (!(e.name == []) && decide (e.name.length ≤ 256) && plainB e.name && !hasB e.name 61 && decide (e.value.length ≤ 1024) && plainB e.value && canonB e.dom && !(e.path == []) && (ax e.path 0 == 47) && decide (e.path.length ≤ 256) &&
      (decide (-1099511627776 ≤ e.exp) && decide (e.exp ≤ 1099511627776) && decide (0 ≤ e.cre) && decide (e.cre ≤ 1099511627776) && decide (0 ≤ e.acc) && decide (e.acc ≤ 1099511627776) && (e.pe || (e.exp == 1099511627776)))) = V
  have HV := Lib.hid hV.symm
  clear hV
  have HK := Lib.hid (kc_new e w)
  generalize plainB e.name = P1 at *
  generalize plainB e.value = P2 at *
  generalize canonB e.dom = cd at *
  generalize hasB e.name 61 = h61 at *
  unfold itV
  obtain ⟨pe', hpe⟩ : ∃ p : Bool, p = e.pe := ⟨_, rfl⟩
  have HPE := Lib.hid hpe
  clear hpe
  go_enter Tryz.func70, Tryz.ntmps70
  cases q0 : (e.name == []) with
  | true =>
    go_wp2
    go_ret
    exact ⟨by rw [HV.out, ← HPE.out]; simp [q0], HK.out.2.2.1⟩
  | false =>
    cases q1 : decide (e.name.length ≤ 256) with
    | true =>
      have tq1 : decide ((e.name.length : Int) ≤ 256) = true := decide_eq_true (by have := of_decide_eq_true q1; omega)
      have sq1 : decide ((256 : Int) < (e.name.length : Int)) = false := decide_eq_false (by have := of_decide_eq_true q1; omega)
      have rq1 : decide (256 < e.name.length) = false := decide_eq_false (by have := of_decide_eq_true q1; omega)
      cases q2 : P1 with
      | true =>
        cases q3 : h61 with
        | true =>
          have h := hfd.out
          rw [q3] at h
          rw [if_pos (of_decide_eq_true h.symm)] at CF
          clear h
          go_wp2_with fail
          refine (CP1.out _).mono ?_; rintro r w1 ⟨rfl, rfl⟩
          go_wp2_with fail
          refine (CF.out _).mono ?_; rintro r w1 ⟨rfl, rfl⟩
          go_wp2
          go_ret
          exact ⟨by rw [HV.out, ← HPE.out]; simp [q0, q1, q2, q3], HK.out.2.2.1⟩
        | false =>
          have h := hfd.out
          rw [q3] at h
          rw [if_neg (of_decide_eq_false h.symm)] at CF
          clear h
          cases q4 : decide (e.value.length ≤ 1024) with
          | true =>
            have tq4 : decide ((e.value.length : Int) ≤ 1024) = true := decide_eq_true (by have := of_decide_eq_true q4; omega)
            have sq4 : decide ((1024 : Int) < (e.value.length : Int)) = false := decide_eq_false (by have := of_decide_eq_true q4; omega)
            have rq4 : decide (1024 < e.value.length) = false := decide_eq_false (by have := of_decide_eq_true q4; omega)
            cases q5 : P2 with
            | true =>
              cases q6 : cd with
              | true =>
                cases q7 : (e.path == []) with
                | true =>
                  go_wp2_with fail
                  refine (CP1.out _).mono ?_; rintro r w1 ⟨rfl, rfl⟩
                  go_wp2_with fail
                  refine (CF.out _).mono ?_; rintro r w1 ⟨rfl, rfl⟩
                  go_wp2_with fail
                  refine (CP2.out _).mono ?_; rintro r w1 ⟨rfl, rfl⟩
                  go_wp2_with fail
                  refine (CC.out _).mono ?_; rintro r w2 ⟨rfl, b2⟩
                  have hKC := Lib.hid (HK.out.step b2)
                  clear b2
                  obtain ⟨k0, k1, k2, c0, c4, c5, c6, c7⟩ := hKC.out.cells
                  go_wp2
                  go_ret
                  exact ⟨by rw [HV.out, ← HPE.out]; simp [q0, q1, q2, q3, q4, q5, q6, q7], hKC.out.2.2.1⟩
                | false =>
                  have hp : (0 : Int) < (e.path.length : Int) := by
                    have : e.path ≠ [] := by intro h; rw [h] at q7; cases q7
                    have := List.length_pos_iff.2 this
                    omega
                  cases q8 : (ax e.path 0 == 47) with
                  | true =>
                    have t8 : ((ax e.path 0 : Int) != 47) = false := by rw [beq_iff_eq] at q8; rw [q8]; rfl
                    cases q9 : decide (e.path.length ≤ 256) with
                    | true =>
                      have tq9 : decide ((e.path.length : Int) ≤ 256) = true := decide_eq_true (by have := of_decide_eq_true q9; omega)
                      have sq9 : decide ((256 : Int) < (e.path.length : Int)) = false := decide_eq_false (by have := of_decide_eq_true q9; omega)
                      have rq9 : decide (256 < e.path.length) = false := decide_eq_false (by have := of_decide_eq_true q9; omega)
                      cases q10 : decide (-1099511627776 ≤ e.exp) with
                      | true =>
                        cases q11 : decide (e.exp ≤ 1099511627776) with
                        | true =>
                          cases q12 : decide (0 ≤ e.cre) with
                          | true =>
                            cases q13 : decide (e.cre ≤ 1099511627776) with
                            | true =>
                              cases q14 : decide (0 ≤ e.acc) with
                              | true =>
                                cases q15 : decide (e.acc ≤ 1099511627776) with
                                | true =>
                                  cases pe' with
                                  | true =>
                                    go_wp2_with fail
                                    refine (CP1.out _).mono ?_; rintro r w1 ⟨rfl, rfl⟩
                                    go_wp2_with fail
                                    refine (CF.out _).mono ?_; rintro r w1 ⟨rfl, rfl⟩
                                    go_wp2_with fail
                                    refine (CP2.out _).mono ?_; rintro r w1 ⟨rfl, rfl⟩
                                    go_wp2_with fail
                                    refine (CC.out _).mono ?_; rintro r w2 ⟨rfl, b2⟩
                                    have hKC := Lib.hid (HK.out.step b2)
                                    clear b2
                                    obtain ⟨k0, k1, k2, c0, c4, c5, c6, c7⟩ := hKC.out.cells
                                    rw [← HPE.out] at c4
                                    go_wp2
                                    go_ret
                                    exact ⟨by rw [HV.out, ← HPE.out]; simp [q0, q1, q2, q3, q4, q5, q6, q7, q8, q9, q10, q11, q12, q13, q14, q15], hKC.out.2.2.1⟩
                                  | false =>
                                    cases q16 : (e.exp == 1099511627776) with
                                    | true =>
                                      go_wp2_with fail
                                      refine (CP1.out _).mono ?_; rintro r w1 ⟨rfl, rfl⟩
                                      go_wp2_with fail
                                      refine (CF.out _).mono ?_; rintro r w1 ⟨rfl, rfl⟩
                                      go_wp2_with fail
                                      refine (CP2.out _).mono ?_; rintro r w1 ⟨rfl, rfl⟩
                                      go_wp2_with fail
                                      refine (CC.out _).mono ?_; rintro r w2 ⟨rfl, b2⟩
                                      have hKC := Lib.hid (HK.out.step b2)
                                      clear b2
                                      obtain ⟨k0, k1, k2, c0, c4, c5, c6, c7⟩ := hKC.out.cells
                                      rw [← HPE.out] at c4
                                      go_wp2
                                      go_ret
                                      exact ⟨by rw [HV.out, ← HPE.out]; simp [q0, q1, q2, q3, q4, q5, q6, q7, q8, q9, q10, q11, q12, q13, q14, q15, q16], hKC.out.2.2.1⟩
                                    | false =>
                                      go_wp2_with fail
                                      refine (CP1.out _).mono ?_; rintro r w1 ⟨rfl, rfl⟩
                                      go_wp2_with fail
                                      refine (CF.out _).mono ?_; rintro r w1 ⟨rfl, rfl⟩
                                      go_wp2_with fail
                                      refine (CP2.out _).mono ?_; rintro r w1 ⟨rfl, rfl⟩
                                      go_wp2_with fail
                                      refine (CC.out _).mono ?_; rintro r w2 ⟨rfl, b2⟩
                                      have hKC := Lib.hid (HK.out.step b2)
                                      clear b2
                                      obtain ⟨k0, k1, k2, c0, c4, c5, c6, c7⟩ := hKC.out.cells
                                      rw [← HPE.out] at c4
                                      go_wp2
                                      go_ret
                                      exact ⟨by rw [HV.out, ← HPE.out]; simp [q0, q1, q2, q3, q4, q5, q6, q7, q8, q9, q10, q11, q12, q13, q14, q15, q16], hKC.out.2.2.1⟩
                                | false =>
                                  go_wp2_with fail
                                  refine (CP1.out _).mono ?_; rintro r w1 ⟨rfl, rfl⟩
                                  go_wp2_with fail
                                  refine (CF.out _).mono ?_; rintro r w1 ⟨rfl, rfl⟩
                                  go_wp2_with fail
                                  refine (CP2.out _).mono ?_; rintro r w1 ⟨rfl, rfl⟩
                                  go_wp2_with fail
                                  refine (CC.out _).mono ?_; rintro r w2 ⟨rfl, b2⟩
                                  have hKC := Lib.hid (HK.out.step b2)
                                  clear b2
                                  obtain ⟨k0, k1, k2, c0, c4, c5, c6, c7⟩ := hKC.out.cells
                                  go_wp2
                                  go_ret
                                  exact ⟨by rw [HV.out, ← HPE.out]; simp [q0, q1, q2, q3, q4, q5, q6, q7, q8, q9, q10, q11, q12, q13, q14, q15], hKC.out.2.2.1⟩
                              | false =>
                                go_wp2_with fail
                                refine (CP1.out _).mono ?_; rintro r w1 ⟨rfl, rfl⟩
                                go_wp2_with fail
                                refine (CF.out _).mono ?_; rintro r w1 ⟨rfl, rfl⟩
                                go_wp2_with fail
                                refine (CP2.out _).mono ?_; rintro r w1 ⟨rfl, rfl⟩
                                go_wp2_with fail
                                refine (CC.out _).mono ?_; rintro r w2 ⟨rfl, b2⟩
                                have hKC := Lib.hid (HK.out.step b2)
                                clear b2
                                obtain ⟨k0, k1, k2, c0, c4, c5, c6, c7⟩ := hKC.out.cells
                                go_wp2
                                go_ret
                                exact ⟨by rw [HV.out, ← HPE.out]; simp [q0, q1, q2, q3, q4, q5, q6, q7, q8, q9, q10, q11, q12, q13, q14], hKC.out.2.2.1⟩
                            | false =>
                              go_wp2_with fail
                              refine (CP1.out _).mono ?_; rintro r w1 ⟨rfl, rfl⟩
                              go_wp2_with fail
                              refine (CF.out _).mono ?_; rintro r w1 ⟨rfl, rfl⟩
                              go_wp2_with fail
                              refine (CP2.out _).mono ?_; rintro r w1 ⟨rfl, rfl⟩
                              go_wp2_with fail
                              refine (CC.out _).mono ?_; rintro r w2 ⟨rfl, b2⟩
                              have hKC := Lib.hid (HK.out.step b2)
                              clear b2
                              obtain ⟨k0, k1, k2, c0, c4, c5, c6, c7⟩ := hKC.out.cells
                              go_wp2
                              go_ret
                              exact ⟨by rw [HV.out, ← HPE.out]; simp [q0, q1, q2, q3, q4, q5, q6, q7, q8, q9, q10, q11, q12, q13], hKC.out.2.2.1⟩
                          | false =>
                            go_wp2_with fail
                            refine (CP1.out _).mono ?_; rintro r w1 ⟨rfl, rfl⟩
                            go_wp2_with fail
                            refine (CF.out _).mono ?_; rintro r w1 ⟨rfl, rfl⟩
                            go_wp2_with fail
                            refine (CP2.out _).mono ?_; rintro r w1 ⟨rfl, rfl⟩
                            go_wp2_with fail
                            refine (CC.out _).mono ?_; rintro r w2 ⟨rfl, b2⟩
                            have hKC := Lib.hid (HK.out.step b2)
                            clear b2
                            obtain ⟨k0, k1, k2, c0, c4, c5, c6, c7⟩ := hKC.out.cells
                            go_wp2
                            go_ret
                            exact ⟨by rw [HV.out, ← HPE.out]; simp [q0, q1, q2, q3, q4, q5, q6, q7, q8, q9, q10, q11, q12], hKC.out.2.2.1⟩
                        | false =>
                          go_wp2_with fail
                          refine (CP1.out _).mono ?_; rintro r w1 ⟨rfl, rfl⟩
                          go_wp2_with fail
                          refine (CF.out _).mono ?_; rintro r w1 ⟨rfl, rfl⟩
                          go_wp2_with fail
                          refine (CP2.out _).mono ?_; rintro r w1 ⟨rfl, rfl⟩
                          go_wp2_with fail
                          refine (CC.out _).mono ?_; rintro r w2 ⟨rfl, b2⟩
                          have hKC := Lib.hid (HK.out.step b2)
                          clear b2
                          obtain ⟨k0, k1, k2, c0, c4, c5, c6, c7⟩ := hKC.out.cells
                          go_wp2
                          go_ret
                          exact ⟨by rw [HV.out, ← HPE.out]; simp [q0, q1, q2, q3, q4, q5, q6, q7, q8, q9, q10, q11], hKC.out.2.2.1⟩
                      | false =>
                        go_wp2_with fail
                        refine (CP1.out _).mono ?_; rintro r w1 ⟨rfl, rfl⟩
                        go_wp2_with fail
                        refine (CF.out _).mono ?_; rintro r w1 ⟨rfl, rfl⟩
                        go_wp2_with fail
                        refine (CP2.out _).mono ?_; rintro r w1 ⟨rfl, rfl⟩
                        go_wp2_with fail
                        refine (CC.out _).mono ?_; rintro r w2 ⟨rfl, b2⟩
                        have hKC := Lib.hid (HK.out.step b2)
                        clear b2
                        obtain ⟨k0, k1, k2, c0, c4, c5, c6, c7⟩ := hKC.out.cells
                        go_wp2
                        go_ret
                        exact ⟨by rw [HV.out, ← HPE.out]; simp [q0, q1, q2, q3, q4, q5, q6, q7, q8, q9, q10], hKC.out.2.2.1⟩
                    | false =>
                      have sq9 : decide ((256 : Int) < (e.path.length : Int)) = true := decide_eq_true (by have := of_decide_eq_false q9; omega)
                      have rq9 : decide (256 < e.path.length) = true := decide_eq_true (by have := of_decide_eq_false q9; omega)
                      go_wp2_with fail
                      refine (CP1.out _).mono ?_; rintro r w1 ⟨rfl, rfl⟩
                      go_wp2_with fail
                      refine (CF.out _).mono ?_; rintro r w1 ⟨rfl, rfl⟩
                      go_wp2_with fail
                      refine (CP2.out _).mono ?_; rintro r w1 ⟨rfl, rfl⟩
                      go_wp2_with fail
                      refine (CC.out _).mono ?_; rintro r w2 ⟨rfl, b2⟩
                      have hKC := Lib.hid (HK.out.step b2)
                      clear b2
                      obtain ⟨k0, k1, k2, c0, c4, c5, c6, c7⟩ := hKC.out.cells
                      go_wp2
                      go_ret
                      exact ⟨by rw [HV.out, ← HPE.out]; simp [q0, q1, q2, q3, q4, q5, q6, q7, q8, q9], hKC.out.2.2.1⟩
                  | false =>
                    have t8 : ((ax e.path 0 : Int) != 47) = true := by rw [beq_eq_false_iff_ne] at q8; rw [bne_iff_ne]; omega
                    go_wp2_with fail
                    refine (CP1.out _).mono ?_; rintro r w1 ⟨rfl, rfl⟩
                    go_wp2_with fail
                    refine (CF.out _).mono ?_; rintro r w1 ⟨rfl, rfl⟩
                    go_wp2_with fail
                    refine (CP2.out _).mono ?_; rintro r w1 ⟨rfl, rfl⟩
                    go_wp2_with fail
                    refine (CC.out _).mono ?_; rintro r w2 ⟨rfl, b2⟩
                    have hKC := Lib.hid (HK.out.step b2)
                    clear b2
                    obtain ⟨k0, k1, k2, c0, c4, c5, c6, c7⟩ := hKC.out.cells
                    go_wp2
                    go_ret
                    exact ⟨by rw [HV.out, ← HPE.out]; simp [q0, q1, q2, q3, q4, q5, q6, q7, q8], hKC.out.2.2.1⟩
              | false =>
                go_wp2_with fail
                refine (CP1.out _).mono ?_; rintro r w1 ⟨rfl, rfl⟩
                go_wp2_with fail
                refine (CF.out _).mono ?_; rintro r w1 ⟨rfl, rfl⟩
                go_wp2_with fail
                refine (CP2.out _).mono ?_; rintro r w1 ⟨rfl, rfl⟩
                go_wp2_with fail
                refine (CC.out _).mono ?_; rintro r w2 ⟨rfl, b2⟩
                have hKC := Lib.hid (HK.out.step b2)
                clear b2
                obtain ⟨k0, k1, k2, c0, c4, c5, c6, c7⟩ := hKC.out.cells
                go_wp2
                go_ret
                exact ⟨by rw [HV.out, ← HPE.out]; simp [q0, q1, q2, q3, q4, q5, q6], hKC.out.2.2.1⟩
            | false =>
              go_wp2_with fail
              refine (CP1.out _).mono ?_; rintro r w1 ⟨rfl, rfl⟩
              go_wp2_with fail
              refine (CF.out _).mono ?_; rintro r w1 ⟨rfl, rfl⟩
              go_wp2_with fail
              refine (CP2.out _).mono ?_; rintro r w1 ⟨rfl, rfl⟩
              go_wp2
              go_ret
              exact ⟨by rw [HV.out, ← HPE.out]; simp [q0, q1, q2, q3, q4, q5], HK.out.2.2.1⟩
          | false =>
            have sq4 : decide ((1024 : Int) < (e.value.length : Int)) = true := decide_eq_true (by have := of_decide_eq_false q4; omega)
            have rq4 : decide (1024 < e.value.length) = true := decide_eq_true (by have := of_decide_eq_false q4; omega)
            go_wp2_with fail
            refine (CP1.out _).mono ?_; rintro r w1 ⟨rfl, rfl⟩
            go_wp2_with fail
            refine (CF.out _).mono ?_; rintro r w1 ⟨rfl, rfl⟩
            go_wp2
            go_ret
            exact ⟨by rw [HV.out, ← HPE.out]; simp [q0, q1, q2, q3, q4], HK.out.2.2.1⟩
      | false =>
        go_wp2_with fail
        refine (CP1.out _).mono ?_; rintro r w1 ⟨rfl, rfl⟩
        go_wp2
        go_ret
        exact ⟨by rw [HV.out, ← HPE.out]; simp [q0, q1, q2], HK.out.2.2.1⟩
    | false =>
      have sq1 : decide ((256 : Int) < (e.name.length : Int)) = true := decide_eq_true (by have := of_decide_eq_false q1; omega)
      have rq1 : decide (256 < e.name.length) = true := decide_eq_true (by have := of_decide_eq_false q1; omega)
      go_wp2
      go_ret
      exact ⟨by rw [HV.out, ← HPE.out]; simp [q0, q1], HK.out.2.2.1⟩
end Go.Proofs.YtpakmeegldgjmaaGreat
