/- The openers of biscottilaw36.Word, by value and in slices. -/
import Derived.Test.YtailbppddnegoaaOG
import Derived.Test.YtailbppddnegoaaO8
import Derived.Test.YtailbppddnegoaaYC
namespace Go.Proofs.Ytailbppddnegoaa
open Go.ChangeShapes Go.WideShapes Go.ChangeAt Go.RowKit Go.Deep
set_option linter.unusedVariables false
set_option maxRecDepth 100000

theorem marks_of_trod {H : Type} {enc : TypeId × Value → H} {W : World} {fuel : Nat} {cs : List Value} {x : DataW H × List MemPlace}
    (hf : DataW.trod enc Try.prog W 0 (fun _ => true) true fuel 22 cs = some x) : ∃ A c L, cs = [.slice A L.length c] ∧ L.length ≤ c ∧ c ≤ maxLen ∧ Ds W W.heap.size A L ∧ ∀ y ∈ L, dB y :=
  elems_of_trod dtC dB ((0, 0), 0) Try.underlying22 (by kernel_rfl) (by omega) dtC_len (fun fuel cs x hx => by
    obtain ⟨d, i, s, rfl, h1, h2, h3⟩ := mark_of_trod hx
    exact ⟨((d, i), s), rfl, h1, h2, h3⟩) hf
/-- A word: a device, and marks that are heard of it. -/
structure Wd where
  dev : Int
  A : Option Addr
  c : Nat
  L : List Dt
def wdC (x : Wd) : List Value := [.int .i64 x.dev, .slice x.A x.L.length x.c]
theorem wdC_len (x : Wd) : (wdC x).length = 2 := rfl
structure WdOk (w : World) (x : Wd) : Prop where
  dev : i64B x.dev
  at_ : MsAt w x.A x.L
  ok : ∀ y ∈ x.L, dB y
  len : x.L.length ≤ x.c
  cap : x.c ≤ maxLen
theorem WdOk.up {w w' : World} {x : Wd} (h : WdOk w x) (b : Below w.heap.size w w') : WdOk w' x := ⟨h.dev, h.at_.up b, h.ok, h.len, h.cap⟩
theorem word_of_trod {H : Type} {enc : TypeId × Value → H} {W : World} {fuel : Nat} {cs : List Value} {x : DataW H × List MemPlace}
    (hf : DataW.trod enc Try.prog W 0 (fun _ => true) true fuel 68 cs = some x) : ∃ y, cs = wdC y ∧ WdOk W y := by
  have hC : Try.prog.cellsOf 68 = 2 := by kernel_rfl
  have hC1 : Try.prog.cellsOf 3 = 1 := by kernel_rfl
  have hC2 : Try.prog.cellsOf 22 = 1 := by kernel_rfl
  obtain ⟨y0, y1, n, _, hl, h0, h1⟩ := trod_struct2 Try.underlying68 hf
  rw [hC] at hl
  obtain ⟨c0, c1, rfl⟩ : ∃ a b, cs = [a, b] := by
    match cs, hl with
    | [a, b], _ => exact ⟨a, b, rfl⟩
  simp only [hC1, hC2] at h0 h1
  obtain ⟨a, e0, _, w0⟩ := DataW.trod_int Try.underlying3 h0
  obtain ⟨A, c, L, e1, h2, h3, h4, h5⟩ := marks_of_trod h1
  simp at e0 e1
  subst e0 e1
  exact ⟨⟨a, A, c, L⟩, rfl, bounds_i64 w0, h4, h5, h2, h3⟩
def IsWord (w : World) (v : Value) : Prop := ∃ y, v = .agg (wdC y).toArray ∧ WdOk w y
theorem open_word {H : Type} {enc : TypeId × Value → H} {W : World} {base : Nat} {v : Value} {d : DataW H} {p : List MemPlace} (hv : Value.okWide Try.prog W .any base 68 v)
    (h : DataW.Trod enc Try.prog W 0 (fun _ => true) true 68 v d p) : IsWord W v := by
  obtain ⟨cs, rfl, hsz⟩ := okWide_struct Try.underlying68 hv
  obtain ⟨fuel, hf⟩ := h
  obtain ⟨p, e, hp⟩ := word_of_trod hf
  refine ⟨p, ?_, hp⟩
  congr 1
  apply Array.ext'
  simpa [Value.cells] using e
/-- A slice of words. -/
def WsAt (w : World) (A : Option Addr) (Ws : List Wd) : Prop := Rd w w.heap.size 2 A Ws.length (Ws.flatMap wdC) ∧ ∀ y ∈ Ws, WdOk w y
theorem WsAt.up {w w' : World} {A : Option Addr} {Ws : List Wd} (h : WsAt w A Ws) (b : Below w.heap.size w w') : WsAt w' A Ws := ⟨(h.1.below b).more b.size, fun y hy => (h.2 y hy).up b⟩
theorem WsAt.at_ {w : World} {A : Option Addr} {Ws : List Wd} {i : Nat} {x : Wd} (h : WsAt w A Ws) (hx : Ws[i]? = some x) :
    ∃ b o, A = some ⟨b, o, none⟩ ∧ b < w.heap.size ∧ w.cell? ⟨b, o + i * 2, none⟩ = some (.int .i64 x.dev) ∧ w.cell? ⟨b, o + i * 2 + 1, none⟩ = some (.slice x.A x.L.length x.c) := by
  have hi : i < Ws.length := (List.getElem?_eq_some_iff.1 hx).1
  obtain ⟨b, o, hA, hb, hc⟩ := h.1.2 (by omega)
  have e := fun j => flatMap_atG wdC 2 (by omega) wdC_len Ws j
  have e0 := e (i * 2)
  have e1 := e (i * 2 + 1)
  rw [show i * 2 / 2 = i by omega, show i * 2 % 2 = 0 by omega, hx] at e0
  rw [show (i * 2 + 1) / 2 = i by omega, show (i * 2 + 1) % 2 = 1 by omega, hx] at e1
  exact ⟨b, o, hA, hb, hc _ _ e0, by rw [Nat.add_assoc]; exact hc _ _ e1⟩
def IsWords (w : World) (v : Value) : Prop := ∃ A c Ws, v = .slice A Ws.length c ∧ Ws.length ≤ c ∧ c ≤ maxLen ∧ WsAt w A Ws
theorem open_words {H : Type} {enc : TypeId × Value → H} {W : World} {base : Nat} {v : Value} {d : DataW H} {p : List MemPlace} (hv : Value.okWide Try.prog W .any base 60 v)
    (h : DataW.Trod enc Try.prog W 0 (fun _ => true) true 60 v d p) : IsWords W v := by
  obtain ⟨A, n, c, rfl⟩ := okWide_slice Try.underlying60 hv
  obtain ⟨fuel, hf⟩ := h
  obtain ⟨A', c', L, e, h1, h2, h3, h4⟩ := elems_of_trod wdC (WdOk W) ⟨0, none, 0, []⟩ Try.underlying60 (by kernel_rfl) (by omega) wdC_len (fun fuel cs x hx => word_of_trod hx) hf
  simp [Value.cells] at e
  obtain ⟨rfl, rfl, rfl⟩ := e
  exact ⟨_, _, L, rfl, h1, h2, h3, h4⟩
end Go.Proofs.Ytailbppddnegoaa
