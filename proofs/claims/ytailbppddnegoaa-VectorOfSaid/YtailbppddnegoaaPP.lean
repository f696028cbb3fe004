/- Merged: P1, P2. -/
import Derived.Test.YtailbppddnegoaaWW
import Derived.Test.YtailbppddnegoaaVV
/- Layer 5 (pack): the writer. -/
namespace Go.Proofs.Ytailbppddnegoaa
open Go.RowKit
set_option linter.unusedVariables false
set_option maxRecDepth 100000

/-- The writer in block b holds the bytes l (own slice A). -/
def Wr (w : World) (base b : Nat) (A : Option Addr) (c : Nat) (l : List UInt8) : Prop :=
  base ≤ b ∧ Whole w b 80 #[.slice A l.length c] ∧ Own w base 5 1 A l.length c (bv l)
/-- A step of the writer in block b: but for b and its bytes nothing old is changed; its bytes lie where they lay, or in a new block. -/
def WStep (w w' : World) (b : Nat) (A A' : Option Addr) : Prop :=
  Ch (fun k => k = b ∨ bl A = some k) w w' ∧ ∀ g, bl A' = some g → bl A = some g ∨ w.heap.size ≤ g
def WEnd (w : World) (base b : Nat) (A : Option Addr) (l : List UInt8) (e : Ending) (w' : World) : Prop :=
  ∃ A' c', e = .returned (.pointer (some ⟨b, 0, none⟩)) ∧ Wr w' base b A' c' l ∧ WStep w w' b A A'

/-- What a new own slice, stored into the writer, leaves. -/
theorem wr_put {w w1 : World} {base b : Nat} {A A1 : Option Addr} {c c1 : Nat} {l L : List UInt8} (h : Wr w base b A c l) (hbase : base ≤ w.heap.size) (o1 : Own w1 w.heap.size 5 1 A1 L.length c1 (bv L)) (b1 : Below w.heap.size w w1) :
    WEnd w base b A L (.returned (.pointer (some ⟨b, 0, none⟩))) (w1.setCell ⟨b, 0, none⟩ (.slice A1 L.length c1)) := by
  obtain ⟨hb, hw, ho⟩ := h
  have hlt := hw.lt
  have hw1 := hw.below b1 hlt
  have hne : bl A1 ≠ some b := by
    intro e
    have := o1.block_lt b (by rw [ownBlock_bl]; exact e)
    omega
  refine ⟨A1, c1, rfl, ⟨hb, ?_, (o1.far (by rw [ownBlock_bl]; exact hne) _).base_le hbase⟩, ?_, ?_⟩
  · have := hw1.set_ 0 (.slice A1 L.length c1)
    simpa using this
  · exact (below_ch (S := fun k => k = b ∨ bl A = some k) b1).trans (Ch.set_ w1 ⟨b, 0, none⟩ _) (fun k _ e => .inl e)
  · intro g hg
    exact .inr (o1.block_lt g (by rw [ownBlock_bl]; exact hg)).1

theorem wnum_any (w : World) (base b : Nat) (A : Option Addr) (c : Nat) (l : List UInt8) (x : Nat) (h : Wr w base b A c l) (hbase : base ≤ w.heap.size) (hl : l.length ≤ 1000000) (hx : x < 18446744073709551616) :
    Calls Try.prog 100 #[.pointer (some ⟨b, 0, none⟩), .int .u64 x] w (WEnd w base b A (l ++ vput x)) := by
  have h0 := Lib.hid h
  obtain ⟨hb, hw, ho⟩ := h
  have hc : w.cell? ⟨b, 0, none⟩ = some (.slice A l.length c) := by rw [hw.cell]; rfl
  have hf := hw.free 0
  have hlt := hw.lt
  have CP := Lib.hid (put_any A l.length c w.heap.size x l w hl hx ho.rd (Nat.le_refl _))
  go_enter Try.func100, Try.ntmps100
  go_wp2_with fail
  refine (CP.out).mono ?_; rintro e w1 ⟨A1, c1, rfl, o1, b1⟩
  have hw1 := hw.below b1 hlt
  have hc1 : w1.cell? ⟨b, 0, none⟩ = some (.slice A l.length c) := by rw [hw1.cell]; rfl
  have hf1 := hw1.free 0
  generalize l ++ vput x = L at *
  go_wp2
  go_ret
  exact wr_put h0.out hbase o1 b1
/-- A string's bytes. -/
def sb (s : ByteArray) : List UInt8 := s.data.toList
theorem sb_length (s : ByteArray) : (sb s).length = s.size := by simp [sb]
theorem strCells_bv (s : ByteArray) : Go.Lib.strCells s = bv (sb s) := rfl
theorem wbytes_any (w : World) (base b : Nat) (A : Option Addr) (c : Nat) (l : List UInt8) (h : Wr w base b A c l) (hl : l.length ≤ 140737488355328) :
    Calls Try.prog 60 #[.pointer (some ⟨b, 0, none⟩)] w (NewB w l) := by
  obtain ⟨hb, hw, ho⟩ := h
  have hc : w.cell? ⟨b, 0, none⟩ = some (.slice A l.length c) := by rw [hw.cell]; rfl
  have hf := hw.free 0
  have CP := Lib.hid (clone_any A l.length c w.heap.size l w hl ho.rd (Nat.le_refl _))
  go_enter Try.func60, Try.ntmps60
  go_wp2_with fail
  refine (CP.out).mono ?_; rintro e w1 ⟨A1, c1, rfl, o1, b1⟩
  go_wp2
  go_ret
  exact ⟨A1, c1, rfl, o1, b1⟩
theorem wnum_nil (x : Int) (w : World) : Calls Try.prog 100 #[.pointer none, .int .u64 x] w fun e w' => e = .returned (.pointer none) ∧ w = w' := by
  go_enter Try.func100, Try.ntmps100
  go_wp2
  go_ret
  exact ⟨rfl, rfl⟩
theorem wbytes_nil (w : World) : Calls Try.prog 60 #[.pointer none] w fun e w' => e = .returned (.slice none 0 0) ∧ w = w' := by
  go_enter Try.func60, Try.ntmps60
  go_wp2
  go_ret
  exact ⟨rfl, rfl⟩
end Go.Proofs.Ytailbppddnegoaa
/- Layer 5 (pack): the reader. -/
namespace Go.Proofs.Ytailbppddnegoaa
open Go.RowKit
set_option linter.unusedVariables false
set_option maxRecDepth 100000

/-- The reader in block b has the bytes l left, and the error er. -/
def Re (w : World) (b : Nat) (A : Option Addr) (n c : Nat) (l : List UInt8) (er : Int) : Prop :=
  Whole w b 147 #[.slice A n c, .int .i64 er] ∧ Rd w b 1 A n (bv l) ∧ n ≤ c ∧ c ≤ maxLen
/-- A reader's step: only its own block is changed. -/
def REnd (w : World) (b : Nat) (r : List UInt8 × Int) (v : Value) (e : Ending) (w' : World) : Prop :=
  ∃ A n c, e = .returned v ∧ Re w' b A n c r.1 r.2 ∧ Ch (fun k => k = b) w w'
/-- What 'Num' reads: the number, what is left, the error. -/
def rnumR (most : Nat) (l : List UInt8) (er : Int) : Nat × List UInt8 × Int :=
  if er ≠ 0 then (0, l, er) else if (vget 0 0 l).2.2 ≠ 0 then (0, l, (vget 0 0 l).2.2) else if most < (vget 0 0 l).1 then (0, l, 3) else ((vget 0 0 l).1, l.drop (vget 0 0 l).2.1, 0)
section
variable {w w' : World} {b n c : Nat} {A : Option Addr} {l : List UInt8} {er : Int}
theorem Re.cell0 (h : Re w b A n c l er) : w.cell? ⟨b, 0, none⟩ = some (.slice A n c) := by rw [h.1.cell]; rfl
theorem Re.cell1 (h : Re w b A n c l er) : w.cell? ⟨b, 1, none⟩ = some (.int .i64 er) := by rw [h.1.cell]; rfl
theorem Re.len (h : Re w b A n c l er) : l.length = n := by have := h.2.1.len; rw [bv_length] at this; exact this
theorem Re.set0 (h : Re w b A n c l er) {A' : Option Addr} {n' c' : Nat} {l' : List UInt8} (hr : Rd w b 1 A' n' (bv l')) (h1 : n' ≤ c') (h2 : c' ≤ maxLen) :
    Re (w.setCell ⟨b, 0, none⟩ (.slice A' n' c')) b A' n' c' l' er := by
  refine ⟨?_, hr.setCell (Nat.le_refl _) _, h1, h2⟩
  have := h.1.set_ 0 (.slice A' n' c')
  simpa using this
theorem Re.set1 (h : Re w b A n c l er) (er' : Int) : Re (w.setCell ⟨b, 1, none⟩ (.int .i64 er')) b A n c l er' := by
  refine ⟨?_, h.2.1.setCell (Nat.le_refl _) _, h.2.2⟩
  have := h.1.set_ 1 (.int .i64 er')
  simpa using this
end

theorem rmay_any (w : World) (b : Nat) (A : Option Addr) (n c : Nat) (l : List UInt8) (er : Int) (h : Re w b A n c l er) :
    Calls Try.prog 124 #[.pointer (some ⟨b, 0, none⟩)] w fun e w' => e = .returned (.bool (er == 0)) ∧ w = w' := by
  have hc := h.cell1
  have hf := h.1.free 1
  go_enter Try.func124, Try.ntmps124
  go_wp2
  go_ret
  exact ⟨rfl, rfl⟩
theorem rmay_nil (w : World) : Calls Try.prog 124 #[.pointer none] w fun e w' => e = .returned (.bool false) ∧ w = w' := by
  go_enter Try.func124, Try.ntmps124
  go_wp2
  go_ret
  exact ⟨rfl, rfl⟩
theorem rerr_any (w : World) (b : Nat) (A : Option Addr) (n c : Nat) (l : List UInt8) (er : Int) (h : Re w b A n c l er) :
    Calls Try.prog 108 #[.pointer (some ⟨b, 0, none⟩)] w fun e w' => e = .returned (.int .i64 er) ∧ w = w' := by
  have hc := h.cell1
  have hf := h.1.free 1
  go_enter Try.func108, Try.ntmps108
  go_wp2
  go_ret
  exact ⟨rfl, rfl⟩
theorem rerr_nil (w : World) : Calls Try.prog 108 #[.pointer none] w fun e w' => e = .returned (.int .i64 17) ∧ w = w' := by
  go_enter Try.func108, Try.ntmps108
  go_wp2
  go_ret
  exact ⟨rfl, rfl⟩
/-- What 'End' says. -/
def endR (l : List UInt8) (er : Int) : Int := if er ≠ 0 then er else if 0 < l.length then 1 else 0
theorem rend_any (w : World) (b : Nat) (A : Option Addr) (n c : Nat) (l : List UInt8) (er : Int) (h : Re w b A n c l er) :
    Calls Try.prog 81 #[.pointer (some ⟨b, 0, none⟩)] w fun e w' => e = .returned (.int .i64 (endR l er)) ∧ w = w' := by
  have hc := h.cell0
  have hf := h.1.free 0
  have hl := h.len
  have C1 := Lib.hid (rerr_any w b A n c l er h)
  unfold endR
  rw [hl]
  by_cases h0 : er = 0
  · subst h0
    by_cases hn : 0 < n
    · have t1 : decide ((0 : Int) < (n : Int)) = true := by simp; exact hn
      have t2 : decide (0 < n) = true := by simp; exact hn
      go_enter Try.func81, Try.ntmps81
      go_wp2_with fail
      refine (C1.out).mono ?_; rintro e w1 ⟨rfl, rfl⟩
      go_wp2
      go_ret
      exact ⟨by simp, rfl⟩
    · have t1 : decide ((0 : Int) < (n : Int)) = false := by simp; omega
      have t2 : decide (0 < n) = false := by simp; omega
      go_enter Try.func81, Try.ntmps81
      go_wp2_with fail
      refine (C1.out).mono ?_; rintro e w1 ⟨rfl, rfl⟩
      go_wp2
      go_ret
      exact ⟨by simp, rfl⟩
  · have t0 : (er == 0) = false := by simp; exact h0
    go_enter Try.func81, Try.ntmps81
    go_wp2_with fail
    refine (C1.out).mono ?_; rintro e w1 ⟨rfl, rfl⟩
    go_wp2
    go_ret
    exact ⟨by simp, rfl⟩
theorem rend_nil (w : World) : Calls Try.prog 81 #[.pointer none] w fun e w' => e = .returned (.int .i64 17) ∧ w = w' := by
  have C1 := Lib.hid (rerr_nil w)
  go_enter Try.func81, Try.ntmps81
  go_wp2_with fail
  refine (C1.out).mono ?_; rintro e w1 ⟨rfl, rfl⟩
  go_wp2
  go_ret
  exact ⟨rfl, rfl⟩
/-- 'Read'. -/
theorem read_any (w : World) (A : Option Addr) (n c : Nat) (l : List UInt8) (hr : Rd w w.heap.size 1 A n (bv l)) (h1 : n ≤ c) (h2 : c ≤ maxLen) :
    Calls Try.prog 78 #[.slice A n c] w fun e w' => e = .returned (.pointer (some ⟨w.heap.size, 0, none⟩)) ∧ Re w' w.heap.size A n c l 0 ∧ Below w.heap.size w w' := by
  go_enter Try.func78, Try.ntmps78
  go_wp2
  go_ret
  exact ⟨rfl, ⟨Whole.new _ _ _, hr.alloc (Nat.le_refl _) _, h1, h2⟩, (Below.refl _ _).alloc (Nat.le_refl _) _⟩
theorem rnum_any (w : World) (b : Nat) (A : Option Addr) (n c : Nat) (l : List UInt8) (er : Int) (most : Nat) (h : Re w b A n c l er) :
    Calls Try.prog 107 #[.pointer (some ⟨b, 0, none⟩), .int .u64 most] w (REnd w b (rnumR most l er).2 (.int .u64 ((rnumR most l er).1 : Int))) := by
  have h0 := Lib.hid h
  have hc0 := h.cell0
  have hf0 := h.1.free 0
  have hc1 := h.cell1
  have hf1 := h.1.free 1
  have hl := h.len
  obtain ⟨hw, hr, hnc, hcm⟩ := h
  have hlt := hw.lt
  have hcm' : c ≤ 9223372036854775807 := hcm
  have C0 := Lib.hid (rmay_any w b A n c l er h0.out)
  by_cases hz : er = 0
  case neg =>
    have t0 : (er == 0) = false := by simp; exact hz
    have e0 : rnumR most l er = (0, l, er) := by simp [rnumR, hz]
    rw [t0] at C0
    rw [e0]
    go_enter Try.func107, Try.ntmps107
    go_wp2_with fail
    refine (C0.out).mono ?_; rintro e w1 ⟨rfl, rfl⟩
    go_wp2
    go_ret
    exact ⟨A, n, c, rfl, h0.out, Ch.refl _ _⟩
  subst hz
  have C1 := Lib.hid (get_any A n c _ l w (by omega) (hr.more (Nat.le_of_lt hlt)))
  have t0 : ((0 : Int) == 0) = true := rfl
  rw [t0] at C0
  rcases vget_err l 0 0 with ⟨x, k, hv⟩ | hv | hv
  · obtain ⟨hx, hk, r, hlr⟩ := vget_only l x k hv
    have hkn : k ≤ n := by rw [hk, ← hl, hlr, List.length_append]; omega
    have hd : getV (vget 0 0 l) = .tuple #[.int .u64 (x : Int), .int .i64 (k : Int), .int .i64 0] := by rw [hv]; rfl
    rw [hd] at C1
    by_cases hm : most < x
    · have e0 : rnumR most l 0 = (0, l, 3) := by simp [rnumR, hv, hm]
      have t1 : decide ((most : Int) < (x : Int)) = true := by simp; exact hm
      have t2 : decide (most < x) = true := by simp; exact hm
      rw [e0]
      clear e0 hd hv hlr hk
      go_enter Try.func107, Try.ntmps107
      go_wp2_with fail
      refine (C0.out).mono ?_; rintro e w1 ⟨rfl, rfl⟩
      go_wp2_with fail
      refine (C1.out).mono ?_; rintro e w1 ⟨rfl, rfl⟩
      go_wp2
      go_ret
      exact ⟨A, n, c, rfl, h0.out.set1 3, Ch.set_ _ ⟨b, 1, none⟩ _⟩
    · have e0 : rnumR most l 0 = (x, l.drop k, 0) := by simp [rnumR, hv, hm]
      have t1 : decide ((most : Int) < (x : Int)) = false := by simp; omega
      have t2 : decide (most < x) = false := by simp; omega
      rw [e0]
      clear e0 hd hv hlr hk
      have hs : ∀ w, (sizeOf (Try.prog.elem 78)).run Try.prog w = .ok 1 w := fun w => by kernel_rfl
      have hsl := run_from (P := Try.prog) 78 (by kernel_rfl) hs A n c k hkn
      have hr2 : Rd w b 1 (cutA A c k) (n - k) (bv (l.drop k)) := by rw [bv_drop]; exact hr.cutA_ hkn hnc
      have hh : n - k ≤ c - k := by omega
      have hh2 : c - k ≤ maxLen := by simp only [maxLen]; omega
      generalize cutA A c k = A2 at *
      generalize n - k = n2 at *
      generalize c - k = c2 at *
      go_enter Try.func107, Try.ntmps107
      go_wp2_with fail
      refine (C0.out).mono ?_; rintro e w1 ⟨rfl, rfl⟩
      go_wp2_with fail
      refine (C1.out).mono ?_; rintro e w1 ⟨rfl, rfl⟩
      go_wp2
      go_ret
      exact ⟨A2, n2, c2, rfl, h0.out.set0 hr2 hh hh2, Ch.set_ _ ⟨b, 0, none⟩ _⟩
  all_goals
    have e0 : rnumR most l 0 = (0, l, (vget 0 0 l).2.2) := by simp [rnumR, hv]
    rw [e0]
    rw [hv] at C1 ⊢
    simp only [getV] at C1
    clear e0 hv
    go_enter Try.func107, Try.ntmps107
    go_wp2_with fail
    refine (C0.out).mono ?_; rintro e w1 ⟨rfl, rfl⟩
    go_wp2_with fail
    refine (C1.out).mono ?_; rintro e w1 ⟨rfl, rfl⟩
    go_wp2
    go_ret
    exact ⟨A, n, c, rfl, h0.out.set1 _, Ch.set_ _ ⟨b, 1, none⟩ _⟩
theorem rnum_nil (x : Int) (w : World) : Calls Try.prog 107 #[.pointer none, .int .u64 x] w fun e w' => e = .returned (.int .u64 0) ∧ w = w' := by
  have C0 := Lib.hid (rmay_nil w)
  go_enter Try.func107, Try.ntmps107
  go_wp2_with fail
  refine (C0.out).mono ?_; rintro e w1 ⟨rfl, rfl⟩
  go_wp2
  go_ret
  exact ⟨rfl, rfl⟩
end Go.Proofs.Ytailbppddnegoaa
