/- Layer 36 (peers): the table; other, All. -/
import Derived.Test.YtailbppddnegoaaR1
import Derived.Test.YtailbppddnegoaaYE
namespace Go.Proofs.Ytailbppddnegoaa
open Go.RowKit Go.Shelf
set_option linter.unusedVariables false
set_option maxRecDepth 100000
attribute [local go_sem] Oper.semAt_some

/-- A vector that a table has: its block, its map's block, its marks. -/
structure Vn where
  v : Nat
  b : Nat
  M : List Dt
def pV (x : Vn) : Value := .pointer (some ⟨x.v, 0, none⟩)
/-- What a table knows. -/
def tabK (Vs : List Vn) : List (List Dt) := Vs.map (·.M)
theorem tabK_len (Vs : List Vn) : (tabK Vs).length = Vs.length := by simp [tabK]
/-- t is a table. -/
structure TabIs (w : World) (t : Nat) (own : Int) (A : Option Addr) (c : Nat) (Vs : List Vn) : Prop where
  blk : Whole w t 136 #[.int .i64 own, .slice A Vs.length c]
  rd : Rd w w.heap.size 1 A Vs.length (Vs.map pV)
  vec : ∀ x ∈ Vs, VecIs w x.v x.b x.M
  nd : (Vs.map (·.b)).Nodup
  len : Vs.length ≤ 64
  cap : Vs.length ≤ c
section
variable {w w' : World} {t c : Nat} {own : Int} {A : Option Addr} {Vs : List Vn}
theorem TabIs.up (h : TabIs w t own A c Vs) (b : Below w.heap.size w w') : TabIs w' t own A c Vs :=
  ⟨h.blk.below b h.blk.lt, (h.rd.below b).more b.size, fun x hx => (h.vec x hx).up b, h.nd, h.len, h.cap⟩
theorem TabIs.drew (h : TabIs w t own A c Vs) : TabIs w.drew t own A c Vs := h.up (Below.drew (Below.refl _ _))
theorem TabIs.c0 (h : TabIs w t own A c Vs) : w.cell? ⟨t, 0, none⟩ = some (.int .i64 own) := by rw [h.blk.cell]; rfl
theorem TabIs.c1 (h : TabIs w t own A c Vs) : w.cell? ⟨t, 1, none⟩ = some (.slice A Vs.length c) := by rw [h.blk.cell]; rfl
theorem TabIs.at_ (h : TabIs w t own A c Vs) {i : Nat} {x : Vn} (hx : Vs[i]? = some x) : ∃ b o, A = some ⟨b, o, none⟩ ∧ b < w.heap.size ∧ w.cell? ⟨b, o + i, none⟩ = some (.pointer (some ⟨x.v, 0, none⟩)) ∧ VecIs w x.v x.b x.M := by
  have hi : i < Vs.length := (List.getElem?_eq_some_iff.1 hx).1
  obtain ⟨b, o, u, hA, hb, hu, hc⟩ := h.rd.at_ hi
  rw [List.getElem?_map, hx] at hu
  cases hu
  exact ⟨b, o, hA, hb, hc, h.vec x (List.mem_of_getElem? hx)⟩
theorem TabIs.vw (h : TabIs w t own A c Vs) : KVw (tabK Vs) := fun M hM => by
  obtain ⟨x, hx, rfl⟩ := List.mem_map.1 hM
  exact (h.vec x hx).2.2
end
theorem ptother_any (w : World) (t : Nat) (own : Int) (A : Option Addr) (c : Nat) (Vs : List Vn) (d : Int) (h : TabIs w t own A c Vs) :
    Calls Try.prog 97 #[.pointer (some ⟨t, 0, none⟩), .int .i64 d] w fun e w' => e = .returned (.bool (othB own Vs.length d)) ∧ Below w.heap.size w w' := by
  have c0 := h.c0
  have c1 := h.c1
  have B0 := Lib.hid (Below.refl w.heap.size w)
  generalize hn : Vs.length = n at *
  clear h hn
  by_cases h1 : 0 ≤ d
  · by_cases h2 : d < (n : Int)
    · have hz : othB own n d = decide (d ≠ own) := by unfold othB; simp [h1, h2]
      rw [hz]
      go_enter Try.func97, Try.ntmps97
      go_wp2
      go_ret
      exact ⟨by by_cases h : d = own <;> simp [h], B0.out⟩
    · have hz : othB own n d = false := by unfold othB; simp [h1, h2]
      rw [hz]
      go_enter Try.func97, Try.ntmps97
      go_wp2
      go_ret
      exact ⟨by simp, B0.out⟩
  · have hz : othB own n d = false := by unfold othB; simp [h1]
    rw [hz]
    go_enter Try.func97, Try.ntmps97
    go_wp2
    go_ret
    exact ⟨by simp, B0.out⟩
theorem ptother_nil (w : World) (d : Int) :
    Calls Try.prog 97 #[.pointer none, .int .i64 d] w fun e w' => e = .returned (.bool false) ∧ Below w.heap.size w w' := by
  have B0 := Lib.hid (Below.refl w.heap.size w)
  go_enter Try.func97, Try.ntmps97
  go_wp2
  go_ret
  exact ⟨by simp, B0.out⟩
/-- Which devices All hands on: from s to s'. -/
def stepT (own : Int) (n : Nat) (s : Nat) (x : Int) (s' : Nat) : Prop := s < n ∧ (s : Int) ≠ own ∧ x = (s : Int) ∧ s' = s + 1
def skipT (own : Int) (n : Nat) (s s' : Nat) : Prop := s < n ∧ (s : Int) = own ∧ s' = s + 1
theorem ptall_iter (n : Nat) (t : Nat) (own : Int) (A : Option Addr) (c : Nat) (Vs : List Vn) :
    IterM n Try.prog 70 #[.pointer (some ⟨t, 0, none⟩)] (fun x : Int => #[.int .i64 x]) (fun W => TabIs W t own A c Vs) 0 (stepT own Vs.length) (fun s => s = Vs.length) (skipT own Vs.length) := by
  intro l J Jx W hJ hJx hT hsk hY h0
  have hT0 := hT 0 W h0
  have c1 := hT0.c1
  have hlen := hT0.len
  have CO := Lib.hid (fun W d (h : TabIs W t own A c Vs) => callsIn_wide (n := n - 1).2 (ptother_any W t own A c Vs d h))
  have HT := Lib.hid hT
  have HJ := Lib.hid hJ
  have HX := Lib.hid hJx
  have HK := Lib.hid hsk
  have HY := Lib.hid hY
  have H0 := Lib.hid h0
  clear hT0 hJ hJx hT hsk hY h0
  generalize hn : Vs.length = m at *
  refine callsIn_of_wp Try.func70 rfl trivial ?_ rfl
  simp only [Try.ntmps70, List.size_toArray, List.length_cons, List.length_nil, Nat.reduceAdd, Nat.reduceSub, Array.replicate_succ, Array.replicate_zero, List.push_toArray, List.append_toArray, List.nil_append, List.cons_append]
  gi_wp2
  gi_loopw [12] (fun p wr => ∃ s : Nat, s ≤ m ∧ p = .int .i64 s ∧ J s wr) (fun p _ => m - (intOf p).toNat)
  case atStart => exact ⟨0, by omega, rfl, H0.out⟩
  case round =>
    obtain ⟨s, hs, rfl, hJs⟩ := hrel
    by_cases hlt : s < m
    · by_cases ho : (s : Int) = own
      · have hz : othB own m (s : Int) = false := by unfold othB; simp [ho]
        have HC := Lib.hid (CO.out wr (s : Int) (HT.out _ _ hJs))
        rw [hz] at HC
        have HS := Lib.hid (show skipT own m s (s + 1) from ⟨hlt, ho, rfl⟩)
        clear hz ho
        gi_wp2
        refine ⟨trivial, fun h => absurd h (by decide), ?_⟩
        refine HC.out.mono ?_; rintro e w1 ⟨rfl, b1⟩
        gi_wp2
        refine ⟨fun _ h => (by cases h), ?_⟩
        gi_wp2
        go_roundw
        case rel => exact ⟨s + 1, by omega, by go_num, HJ.out _ _ _ (HK.out s (s + 1) wr HS.out hJs) b1⟩
        case measure => simp [intOf]; omega
      · have hz : othB own m (s : Int) = true := by unfold othB; simp [ho, hlt]
        have HC := Lib.hid (CO.out wr (s : Int) (HT.out _ _ hJs))
        rw [hz] at HC
        have HS := Lib.hid (show stepT own m s (s : Int) (s + 1) from ⟨hlt, ho, rfl, rfl⟩)
        clear hz ho
        gi_wp2
        refine ⟨trivial, fun h => absurd h (by decide), ?_⟩
        refine HC.out.mono ?_; rintro e w1 ⟨rfl, b1⟩
        obtain ⟨fn, tmps, assign, body, hy, hR⟩ := HY.out s (s : Int) (s + 1) w1 HS.out (HJ.out _ _ _ hJs b1)
        have HR := Lib.hid hR
        clear hR
        gi_wp2
        refine ⟨fun h => absurd h (by decide), ?_⟩
        refine HR.out.mono ?_
        rintro e W3 (⟨rfl, hJ3⟩ | ⟨rfl, hJx3⟩)
        · gi_wp2
          go_roundw
          case rel => exact ⟨s + 1, by omega, by go_num, hJ3⟩
          case measure => simp [intOf]; omega
        · gi_wp2
          refine bodyPost_ret (results_none rfl _ _ _) rfl ?_
          exact ⟨⟨_, rfl⟩, .inr hJx3⟩
    · have hs' : s = m := by omega
      subst hs'
      gi_wp2
      go_end0
      exact ⟨⟨_, rfl⟩, .inl ⟨s, rfl, hJs⟩⟩
end Go.Proofs.Ytailbppddnegoaa
