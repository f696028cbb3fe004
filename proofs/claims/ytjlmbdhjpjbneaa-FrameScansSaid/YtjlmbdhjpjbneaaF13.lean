/- Layer 4 (frame): Scan, the document's Scan. -/
import Derived.Test.YtjlmbdhjpjbneaaF12
namespace Go.Proofs.Ytjlmbdhjpjbneaa
open Go.RowKit
set_option linter.unusedVariables false
set_option maxRecDepth 100000

/-- What Scan hands back. -/
def ScE (w : World) (r : List (List UInt8) × Nat) (e : Ending) (w' : World) : Prop :=
  ∃ A c us, e = .returned (.tuple #[.slice A r.1.length c, .int .i64 (r.2 : Int)]) ∧ Own w' w.heap.size 62 1 A r.1.length c us ∧ OwBs w' w.heap.size us r.1 ∧ Below w.heap.size w w'
/-- Between two rounds: L has come, 'at' bytes are over. -/
def ScAt (w : World) (n : Nat) (l : List UInt8) (x y : Value) (wr : World) : Prop :=
  ∃ (k : Nat) (L : List (List UInt8)) (A : Option Addr) (c : Nat) (us : List Value), k ≤ n ∧ L.length ≤ k ∧ x = .slice A L.length c ∧ y = .int .i64 k ∧ sc l = (L ++ (sc (l.drop k)).1, k + (sc (l.drop k)).2) ∧
    Own wr w.heap.size 62 1 A L.length c us ∧ OwBs wr w.heap.size us L ∧ Below w.heap.size w wr
set_option maxHeartbeats 2000000 in
theorem fscan_any (A : Option Addr) (n c : Nat) (l : List UInt8) (w : World) (hr : Rd w w.heap.size 1 A n (bv l)) (hn : n ≤ 100000) (hnc : n ≤ c) (hcm : c ≤ maxLen) :
    Calls Try.prog 60 #[.slice A n c] w (ScE w (sc l)) := by
  obtain ⟨i0, hi, hz0, hz1, hz2⟩ := info_parts_z Try.info_bs
  have el : l.length = n := by have := hr.len; rwa [bv_length] at this
  have hcm' : c ≤ 9223372036854775807 := hcm
  have hs1 : ∀ w, (sizeOf (Try.prog.elem 62)).run Try.prog w = .ok 1 w := fun w => by kernel_rfl
  have HS := Lib.hid (run_from (P := Try.prog) 62 (by kernel_rfl) hs1)
  clear hs1
  go_enter Try.func60, Try.ntmps60
  go_wp2
  go_step3
  go_wp2
  go_step3
  go_wp2
  go_loopw [4, 5] (fun x y wr => ScAt w n l x y wr) (fun _ y _ => n - (intOf y).toNat)
  case atStart => exact ⟨0, [], none, 0, [], by omega, by simp, rfl, rfl, by simp, Own.nil_, OwBs.nil_ _ _, Below.refl _ _⟩
  case round =>
    obtain ⟨k, L, A1, c1, us, hk, hLk, rfl, rfl, hsc, ho, hus, hb⟩ := hrel
    have hfrom := HS.out A n c k (by omega)
    have rk : Rd wr w.heap.size 1 (cutA A c k) (n - k) (bv (l.drop k)) := by
      have := (hr.below hb).cutA_ (k := k) hk hnc
      rw [← bv_drop] at this
      exact this
    have C1 := Lib.hid (fget_any (cutA A c k) (n - k) (c - k) (l.drop k) wr (rk.more hb.size) (by omega) (by omega) (by simp only [maxLen]; omega))
    have hgp := fG_pos (l.drop k)
    rw [List.length_drop, el] at hgp
    have hno := sc_no (l.drop k)
    have hyes := sc_yes (l.drop k)
    rw [List.drop_drop] at hyes
    have HSC := Lib.hid hsc
    have HNO := Lib.hid hno
    have HYES := Lib.hid hyes
    clear hsc hno hyes
    generalize cutA A c k = A2 at *
    by_cases he : (fG (l.drop k)).2.2 = 0
    · have hgp' := hgp he
      have hyes := HYES.out he
      clear hgp
      generalize fG (l.drop k) = R at *
      obtain ⟨body, m, er⟩ := R
      simp only at he hgp' hyes
      subst he
      have HY := Lib.hid hyes
      have HO := Lib.hid ho
      have HU := Lib.hid hus
      clear hyes ho hus rk
      have hbs := hb.size
      go_wp2_with fail
      refine (C1.out).mono ?_; rintro e w2 ⟨Ab, cb, rfl, ob, b2⟩
      have hz2' := b2.size
      have ho2 := HO.out.below b2 (Nat.le_refl _)
      have hu2 := HU.out.below b2
      have hb2 := below_step hb b2
      have ob' := ob.base_le hbs
      have hsrc := (Rd.freshM w2 #[.slice Ab body.length cb] 62 (0, 0) 1 rfl)
      clear C1 HO HU ob
      go_wp2_with (
        at_builtin
        refine wpList_append_rdn _ rfl (.tmp 19) (.tmp 21) 94 rfl w.heap.size 62 i0 (.slice none 0 0) 1 24 Try.underlying94 hi hz0 hz1 hz2 rfl (by decide) (by decide) A1 L.length c1 us rfl (ho2.alloc _) _ _ 1 1 _ rfl hsrc (by simp [Value.oneCell']) (by omega) (by simp; omega) ?_
        intro A5 c5 w5 o5 g5 n5)
      have hb5 : Below w.heap.size w w5 := (hb2.alloc hb2.size _).grown g5 (by have := hb2.size; simp; omega) (fun j hj => (ho2.alloc (.cells #[.slice Ab body.length cb] 62)).block_lt j (by rw [ownBlock_bl]; exact hj) |>.1)
      have hu5 := (hu2.alloc (.cells #[.slice Ab body.length cb] 62)).grown (ho2.alloc _) (by decide) g5
      have ob5 : OwB w5 w.heap.size (.slice Ab body.length cb) body := ⟨Ab, cb, rfl, (ob'.alloc _).ch (grown_ch g5) (fun j _ _ hj hs => (ho2.alloc (.cells #[.slice Ab body.length cb] 62)).apart (ob'.alloc _) (by decide) j hs.symm hj)⟩
      go_roundw
      case rel =>
        refine ⟨k + m, L ++ [body], A5, c5, us ++ [.slice Ab body.length cb], by omega, by simp; omega, by simp, by go_num, ?_, by simpa using o5, hu5.snoc ob5, hb5⟩
        rw [HSC.out, HY.out]
        simp [Nat.add_assoc]
      case measure => simp [intOf]; omega
    · have hno := HNO.out he
      have hS := HSC.out
      rw [hno] at hS
      simp only [List.append_nil, Nat.add_zero] at hS
      have hne : ((fG (l.drop k)).2.2 != 0) = true := by simp [he]
      have HO := Lib.hid ho
      have HU := Lib.hid hus
      have HS5 := Lib.hid hS
      clear hno HNO HYES HSC hgp ho hus hS rk
      generalize fG (l.drop k) = R at *
      obtain ⟨body, m, er⟩ := R
      simp only at he hne
      go_wp2_with fail
      refine (C1.out).mono ?_; rintro e w2 ⟨Ab, cb, rfl, ob, b2⟩
      go_wp2
      go_ret2
      refine (show ScE w (sc l) _ _ from ?_)
      rw [HS5.out]
      exact ⟨A1, c1, us, rfl, HO.out.below b2 (Nat.le_refl _), HU.out.below b2, below_step hb b2⟩
set_option maxHeartbeats 2000000 in
theorem rfscan_any (A : Option Addr) (n c : Nat) (l : List UInt8) (w : World) (hr : Rd w w.heap.size 1 A n (bv l)) (hn : n ≤ 100000) (hnc : n ≤ c) (hcm : c ≤ maxLen) :
    Calls Try.prog 62 #[.slice A n c] w (ScE w (sc l)) := by
  obtain ⟨i0, hi, hz0, hz1, hz2⟩ := info_parts_z Try.info_bs
  have el : l.length = n := by have := hr.len; rwa [bv_length] at this
  have hcm' : c ≤ 9223372036854775807 := hcm
  have hs1 : ∀ w, (sizeOf (Try.prog.elem 62)).run Try.prog w = .ok 1 w := fun w => by kernel_rfl
  have HS := Lib.hid (run_from (P := Try.prog) 62 (by kernel_rfl) hs1)
  clear hs1
  go_enter Try.func62, Try.ntmps62
  go_wp2
  go_loopw [4, 5] (fun x y wr => ScAt w n l x y wr) (fun _ y _ => n - (intOf y).toNat)
  case atStart => exact ⟨0, [], some ⟨w.heap.size, 0, none⟩, 0, [], by omega, by simp, rfl, rfl, by simp, own_e0 _ _, OwBs.nil_ _ _, (Below.refl _ _).alloc (Nat.le_refl _) _⟩
  case round =>
    obtain ⟨k, L, A1, c1, us, hk, hLk, rfl, rfl, hsc, ho, hus, hb⟩ := hrel
    have hfrom := HS.out A n c k (by omega)
    have rk : Rd wr w.heap.size 1 (cutA A c k) (n - k) (bv (l.drop k)) := by
      have := (hr.below hb).cutA_ (k := k) hk hnc
      rw [← bv_drop] at this
      exact this
    have C1 := Lib.hid (rfget_any (cutA A c k) (n - k) (c - k) (l.drop k) wr (rk.more hb.size) (by omega) (by omega) (by simp only [maxLen]; omega))
    have hgp := fG_pos (l.drop k)
    rw [List.length_drop, el] at hgp
    have hno := sc_no (l.drop k)
    have hyes := sc_yes (l.drop k)
    rw [List.drop_drop] at hyes
    have HSC := Lib.hid hsc
    have HNO := Lib.hid hno
    have HYES := Lib.hid hyes
    clear hsc hno hyes
    generalize cutA A c k = A2 at *
    by_cases he : (fG (l.drop k)).2.2 = 0
    · have hgp' := hgp he
      have hyes := HYES.out he
      clear hgp
      generalize fG (l.drop k) = R at *
      obtain ⟨body, m, er⟩ := R
      simp only at he hgp' hyes
      subst he
      have HY := Lib.hid hyes
      have HO := Lib.hid ho
      have HU := Lib.hid hus
      clear hyes ho hus rk
      have hbs := hb.size
      go_wp2_with fail
      refine (C1.out).mono ?_; rintro e w2 ⟨Ab, cb, rfl, ob, b2⟩
      have hz2' := b2.size
      have ho2 := HO.out.below b2 (Nat.le_refl _)
      have hu2 := HU.out.below b2
      have hb2 := below_step hb b2
      have ob' := ob.base_le hbs
      have hsrc := (Rd.freshM w2 #[.slice Ab body.length cb] 62 (0, 0) 1 rfl)
      clear C1 HO HU ob
      go_wp2_with (
        at_builtin
        refine wpList_append_rdn _ rfl (.tmp 22) (.tmp 24) 94 rfl w.heap.size 62 i0 (.slice none 0 0) 1 24 Try.underlying94 hi hz0 hz1 hz2 rfl (by decide) (by decide) A1 L.length c1 us rfl (ho2.alloc _) _ _ 1 1 _ rfl hsrc (by simp [Value.oneCell']) (by omega) (by simp; omega) ?_
        intro A5 c5 w5 o5 g5 n5)
      have hb5 : Below w.heap.size w w5 := (hb2.alloc hb2.size _).grown g5 (by have := hb2.size; simp; omega) (fun j hj => (ho2.alloc (.cells #[.slice Ab body.length cb] 62)).block_lt j (by rw [ownBlock_bl]; exact hj) |>.1)
      have hu5 := (hu2.alloc (.cells #[.slice Ab body.length cb] 62)).grown (ho2.alloc _) (by decide) g5
      have ob5 : OwB w5 w.heap.size (.slice Ab body.length cb) body := ⟨Ab, cb, rfl, (ob'.alloc _).ch (grown_ch g5) (fun j _ _ hj hs => (ho2.alloc (.cells #[.slice Ab body.length cb] 62)).apart (ob'.alloc _) (by decide) j hs.symm hj)⟩
      go_roundw
      case rel =>
        refine ⟨k + m, L ++ [body], A5, c5, us ++ [.slice Ab body.length cb], by omega, by simp; omega, by simp, by go_num, ?_, by simpa using o5, hu5.snoc ob5, hb5⟩
        rw [HSC.out, HY.out]
        simp [Nat.add_assoc]
      case measure => simp [intOf]; omega
    · have hno := HNO.out he
      have hS := HSC.out
      rw [hno] at hS
      simp only [List.append_nil, Nat.add_zero] at hS
      have hne : ((fG (l.drop k)).2.2 != 0) = true := by simp [he]
      have HO := Lib.hid ho
      have HU := Lib.hid hus
      have HS5 := Lib.hid hS
      clear hno HNO HYES HSC hgp ho hus hS rk
      generalize fG (l.drop k) = R at *
      obtain ⟨body, m, er⟩ := R
      simp only at he hne
      go_wp2_with fail
      refine (C1.out).mono ?_; rintro e w2 ⟨Ab, cb, rfl, ob, b2⟩
      go_wp2
      go_ret2
      refine (show ScE w (sc l) _ _ from ?_)
      rw [HS5.out]
      exact ⟨A1, c1, us, rfl, HO.out.below b2 (Nat.le_refl _), HU.out.below b2, below_step hb b2⟩
end Go.Proofs.Ytjlmbdhjpjbneaa
