/- The openers of biscottilaw05.Part, by value and in slices. -/
import Derived.Test.YtjlmbdhjpjbneaaO
import Derived.Test.YtjlmbdhjpjbneaaP3
import Derived.Deep.Slices
import Derived.Deep.Strs
namespace Go.Proofs.Ytjlmbdhjpjbneaa
open Go.ChangeShapes Go.WideShapes Go.ChangeAt Go.RowKit Go.Deep
set_option linter.unusedVariables false
set_option maxRecDepth 100000

/-- A part. -/
structure Pt where
  k : Int
  N : Nat
  S : ByteArray
  FA : Option Addr
  fn : Nat
  fc : Nat
  fl : List Bool
  most : Int
def ptV (p : Pt) : Value := .agg #[.int .i64 p.k, .int .u64 (p.N : Int), .string p.S, .slice p.FA p.fn p.fc, .int .i64 p.most]
def ptOk (w : World) (B : Nat) (p : Pt) : Prop := i64B p.k ∧ p.N < 18446744073709551616 ∧ p.S.size ≤ maxLen ∧ Rd w B 1 p.FA p.fn (tv p.fl) ∧ p.fn ≤ p.fc ∧ p.fc ≤ maxLen ∧ i64B p.most
def PartsAt (w : World) (B : Nat) (A : Option Addr) (n : Nat) (f : Nat → Pt) : Prop :=
  0 < n → ∃ b o, A = some ⟨b, o, none⟩ ∧ b < B ∧ ∀ i, i < n → w.cell? ⟨b, o + i * 5, none⟩ = some (.int .i64 (f i).k) ∧ w.cell? ⟨b, o + i * 5 + 1, none⟩ = some (.int .u64 ((f i).N : Int)) ∧ w.cell? ⟨b, o + i * 5 + 2, none⟩ = some (.string (f i).S) ∧
    w.cell? ⟨b, o + i * 5 + 3, none⟩ = some (.slice (f i).FA (f i).fn (f i).fc) ∧ w.cell? ⟨b, o + i * 5 + 4, none⟩ = some (.int .i64 (f i).most)
theorem PartsAt.below {w w' : World} {B n : Nat} {A : Option Addr} {f : Nat → Pt} (h : PartsAt w B A n f) (hb : Below B w w') : PartsAt w' B A n f := fun hn => by
  obtain ⟨b, o, e, hlt, hc⟩ := h hn
  refine ⟨b, o, e, hlt, fun i hi => ?_⟩
  obtain ⟨h0, h1, h2, h3, h4⟩ := hc i hi
  refine ⟨?_, ?_, ?_, ?_, ?_⟩
  all_goals
    rw [hb.cell (by simpa using hlt)]
    assumption
def IsParts (w : World) (v : Value) : Prop := ∃ A n c f, v = .slice A n c ∧ n ≤ c ∧ c ≤ maxLen ∧ PartsAt w w.heap.size A n f ∧ ∀ i, i < n → ptOk w w.heap.size (f i)
def IsPart (w : World) (v : Value) : Prop := ∃ p, v = ptV p ∧ ptOk w w.heap.size p
theorem addr_add (b x y : Nat) : (⟨b, x, none⟩ : Addr).add y = ⟨b, x + y, none⟩ := by by_cases hy : y = 0 <;> simp [Addr.add, hy]
theorem bools_of_trod {H : Type} {enc : TypeId × Value → H} {W : World} {fuel : Nat} {cs : List Value} {x : DataW H × List MemPlace}
    (hf : DataW.trod enc Try.prog W 0 (fun _ => true) true fuel 68 cs = some x) : ∃ FA fn fc fl, cs = [.slice FA fn fc] ∧ Rd W W.heap.size 1 FA fn (tv fl) ∧ fn ≤ fc ∧ fc ≤ maxLen := by
  rcases open_slice Try.underlying68 hf with ⟨hcs, _⟩ | ⟨a, len, cap, m, n', D, Pl, hcs, _, hl, hm, hmm, _, hi⟩
  · exact ⟨none, 0, 0, [], hcs, Rd.nil_, Nat.le_refl _, by simp [maxLen]⟩
  · simp at hmm
    subst hmm
    have hC1 : Try.prog.cellsOf 4 = 1 := by kernel_rfl
    have hF : ∀ i, ∃ b : Bool, i < len → W.cell? (a.add i) = some (.bool b) := by
      intro i
      by_cases hin : i < len
      · obtain ⟨cs', hc, ht'⟩ := hi i (by omega)
        rw [hC1, Nat.mul_one] at hc
        obtain ⟨_, hcl, hat⟩ := World.cells?_some hc
        obtain ⟨b, rfl, _⟩ := DataW.trod_bool Try.underlying4 ht'
        refine ⟨b, fun _ => ?_⟩
        have := hat 0 (by omega)
        have e0 : (a.add i).add 0 = a.add i := by simp [Addr.add]
        rw [e0] at this
        exact this
      · exact ⟨false, fun h => absurd h hin⟩
    obtain ⟨F, hF⟩ := Classical.axiomOfChoice hF
    refine ⟨_, len, _, (List.range len).map F, hcs, ⟨by simp [tv], fun hn => ?_⟩, hl, hm⟩
    have h0 := hF 0 (by omega)
    obtain ⟨b, off, spot⟩ := a
    have hspot : spot = none := by simpa [Addr.add] using World.cell?_spot h0
    subst hspot
    have hlt : b < W.heap.size := by
      rcases Nat.lt_or_ge b W.heap.size with hlt | hge
      · exact hlt
      · simp [World.cell?, Addr.add, Array.getElem?_eq_none hge] at h0
    refine ⟨b, off, rfl, hlt, fun j u hu => ?_⟩
    have hj : j < len := by
      rcases Nat.lt_or_ge j len with h | h
      · exact h
      · rw [tv, List.getElem?_eq_none (by simpa using h)] at hu
        cases hu
    have := hF j hj
    rw [addr_add] at this
    rw [this, ← hu]
    simp [tv, hj]
theorem part_of_trod {H : Type} {enc : TypeId × Value → H} {W : World} {fuel : Nat} {cs : List Value} {x : DataW H × List MemPlace}
    (hf : DataW.trod enc Try.prog W 0 (fun _ => true) true fuel 70 cs = some x) : ∃ p, cs = [.int .i64 p.k, .int .u64 (p.N : Int), .string p.S, .slice p.FA p.fn p.fc, .int .i64 p.most] ∧ ptOk W W.heap.size p := by
  have hC : Try.prog.cellsOf 70 = 5 := by kernel_rfl
  have hC1 : Try.prog.cellsOf 3 = 1 := by kernel_rfl
  have hC2 : Try.prog.cellsOf 67 = 1 := by kernel_rfl
  have hC3 : Try.prog.cellsOf 9 = 1 := by kernel_rfl
  have hC4 : Try.prog.cellsOf 68 = 1 := by kernel_rfl
  obtain ⟨xs, n, _, _, hl, hlen, hg⟩ := DataW.trod_struct Try.underlying70 hf
  rw [hC] at hl
  obtain ⟨c0, c1, c2, c3, c4, rfl⟩ : ∃ a b c d e, cs = [a, b, c, d, e] := by
    match cs, hl with
    | [a, b, c, d, e], _ => exact ⟨a, b, c, d, e, rfl⟩
  match xs, hlen with
  | [y0, y1, y2, y3, y4], _ =>
    have h0 : DataW.trod enc Try.prog W 0 (fun _ => true) true n 3 (([c0, c1, c2, c3, c4].drop 0).take (Try.prog.cellsOf 3)) = some y0 := hg 0 _ rfl
    have h1 : DataW.trod enc Try.prog W 0 (fun _ => true) true n 67 (([c0, c1, c2, c3, c4].drop 1).take (Try.prog.cellsOf 67)) = some y1 := hg 1 _ rfl
    have h2 : DataW.trod enc Try.prog W 0 (fun _ => true) true n 9 (([c0, c1, c2, c3, c4].drop 2).take (Try.prog.cellsOf 9)) = some y2 := hg 2 _ rfl
    have h3 : DataW.trod enc Try.prog W 0 (fun _ => true) true n 68 (([c0, c1, c2, c3, c4].drop 3).take (Try.prog.cellsOf 68)) = some y3 := hg 3 _ rfl
    have h4 : DataW.trod enc Try.prog W 0 (fun _ => true) true n 3 (([c0, c1, c2, c3, c4].drop 4).take (Try.prog.cellsOf 3)) = some y4 := hg 4 _ rfl
    rw [hC1] at h0 h4
    rw [hC2] at h1
    rw [hC3] at h2
    rw [hC4] at h3
    obtain ⟨a, e0, _, w0⟩ := DataW.trod_int Try.underlying3 h0
    obtain ⟨b, e1, _, w1⟩ := DataW.trod_int Try.underlying67 h1
    obtain ⟨s, e2, _, w2⟩ := DataW.trod_string Try.underlying9 h2
    obtain ⟨FA, fn, fc, fl, e3, w3, w3', w3''⟩ := bools_of_trod h3
    obtain ⟨d, e4, _, w4⟩ := DataW.trod_int Try.underlying3 h4
    simp at e0 e1 e2 e3 e4
    subst e0 e1 e2 e3 e4
    have hb := bounds_u64 w1
    obtain ⟨B, rfl⟩ := Int.eq_ofNat_of_zero_le hb.1
    exact ⟨⟨a, B, s, FA, fn, fc, fl, d⟩, rfl, bounds_i64 w0, by simp only; omega, w2, w3, w3', w3'', bounds_i64 w4⟩
theorem open_part {H : Type} {enc : TypeId × Value → H} {W : World} {base : Nat} {v : Value} {d : DataW H} {p : List MemPlace} (hv : Value.okWide Try.prog W .any base 70 v)
    (h : DataW.Trod enc Try.prog W 0 (fun _ => true) true 70 v d p) : IsPart W v := by
  obtain ⟨cs, rfl, hsz⟩ := okWide_struct Try.underlying70 hv
  obtain ⟨fuel, hf⟩ := h
  obtain ⟨p, e, hp⟩ := part_of_trod hf
  refine ⟨p, ?_, hp⟩
  unfold ptV
  congr 1
  apply Array.ext'
  simpa [Value.cells] using e
theorem open_parts {H : Type} {enc : TypeId × Value → H} {W : World} {base : Nat} {v : Value} {d : DataW H} {p : List MemPlace} (hv : Value.okWide Try.prog W .any base 59 v)
    (h : DataW.Trod enc Try.prog W 0 (fun _ => true) true 59 v d p) : IsParts W v := by
  obtain ⟨A, n, c, rfl⟩ := okWide_slice Try.underlying59 hv
  obtain ⟨fuel, hf⟩ := h
  rcases open_slice Try.underlying59 hf with ⟨hcs, _⟩ | ⟨a, len, cap, m, n', D, Pl, hcs, _, hl, hm, hmm, _, hi⟩
  · simp [Value.cells] at hcs
    obtain ⟨rfl, rfl, rfl⟩ := hcs
    exact ⟨none, 0, 0, fun _ => ⟨0, 0, ByteArray.empty, none, 0, 0, [], 0⟩, rfl, Nat.le_refl _, by simp [maxLen], fun h => absurd h (by omega), fun i hi => absurd hi (by omega)⟩
  · simp [Value.cells] at hcs
    obtain ⟨rfl, rfl, rfl⟩ := hcs
    simp at hmm
    subst hmm
    have hC : Try.prog.cellsOf 70 = 5 := by kernel_rfl
    have hF : ∀ i, ∃ q : Pt, i < n → ptOk W W.heap.size q ∧ ∀ j, j < 5 → W.cell? ((a.add (i * 5)).add j) = [Value.int .i64 q.k, .int .u64 (q.N : Int), .string q.S, .slice q.FA q.fn q.fc, .int .i64 q.most][j]? := by
      intro i
      by_cases hin : i < n
      · obtain ⟨cs', hc, ht'⟩ := hi i (by omega)
        rw [hC] at hc
        obtain ⟨_, hcl, hat⟩ := World.cells?_some hc
        obtain ⟨q, rfl, hq⟩ := part_of_trod ht'
        exact ⟨q, fun _ => ⟨hq, fun j hj => hat j hj⟩⟩
      · exact ⟨⟨0, 0, ByteArray.empty, none, 0, 0, [], 0⟩, fun h => absurd h hin⟩
    obtain ⟨F, hF⟩ := Classical.axiomOfChoice hF
    refine ⟨_, n, _, F, rfl, hl, hm, fun hn => ?_, fun i hi => (hF i hi).1⟩
    have h0 := (hF 0 hn).2 0 (by omega)
    obtain ⟨b, off, spot⟩ := a
    have hspot : spot = none := by simpa [Addr.add] using World.cell?_spot h0
    subst hspot
    have hlt : b < W.heap.size := by
      rcases Nat.lt_or_ge b W.heap.size with hlt | hge
      · exact hlt
      · simp [World.cell?, Addr.add, Array.getElem?_eq_none hge] at h0
    refine ⟨b, off, rfl, hlt, fun i hi' => ?_⟩
    have hh := (hF i hi').2
    refine ⟨?_, ?_, ?_, ?_, ?_⟩
    · have := hh 0 (by omega)
      rw [addr_add, addr_add, Nat.add_zero] at this
      exact this
    · have := hh 1 (by omega)
      rw [addr_add, addr_add] at this
      exact this
    · have := hh 2 (by omega)
      rw [addr_add, addr_add] at this
      exact this
    · have := hh 3 (by omega)
      rw [addr_add, addr_add] at this
      exact this
    · have := hh 4 (by omega)
      rw [addr_add, addr_add] at this
      exact this
end Go.Proofs.Ytjlmbdhjpjbneaa
