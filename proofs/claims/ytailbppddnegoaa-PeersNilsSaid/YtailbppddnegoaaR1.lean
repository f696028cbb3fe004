/- Layer 36 (peers), plain; and a range over a method value. -/
import Derived.Test.YtailbppddnegoaaQQ
import Derived.Test.YtailbppddnegoaaWW
import Derived.RangeFuncNested
import Derived.RangeFuncBound
import Derived.RangeFuncCalls
import Derived.RangeFuncLeaves
import Derived.Shelf.Abstract
import Derived.Shelf.RegionOpen
import Derived.WalkKit
import Derived.OwnWalkIn
import Derived.TacticsInMore
import Derived.LoopNIn
import Derived.LoopIn
import Derived.Deep.RegionHeld3
import Derived.Deep.DrawnRows
namespace Go.Proofs.Ytailbppddnegoaa
open Go.RowKit Go.Shelf
set_option linter.unusedVariables false

/-! ### A range over a method value (the receiver stands ahead of yield) -/
/-- Blocks that a range over a function keeps its books in. -/
def bookO : Obj → Bool
  | .loop _ => true
  | .deferred _ => true
  | _ => false
/-- No block of books has changed. -/
def KeepsB (W W' : World) : Prop := ∀ (k : Nat) (o : Obj), W.heap[k]? = some o → bookO o = true → W'.heap[k]? = some o
theorem KeepsB.below {W W' : World} (h : Below W.heap.size W W') : KeepsB W W' := fun k o hk _ => (h.block k (Array.getElem?_eq_some_iff.1 hk).1).trans hk
theorem KeepsB.ch {S : Nat → Prop} {W W' : World} (h : Ch S W W') (hS : ∀ (k : Nat) (o : Obj), S k → W.heap[k]? = some o → bookO o = false) : KeepsB W W' := fun k o hk hb =>
  (h.block k (Array.getElem?_eq_some_iff.1 hk).1 (fun hs => by rw [hS k o hs hk] at hb; cases hb)).trans hk
theorem KeepsB.grown {W W' : World} {row : Option Nat} (h : W.grownBy W' row) (hr : ∀ k o, row = some k → W.heap[k]? = some o → bookO o = false) : KeepsB W W' := fun k o hk hb =>
  (h.block k (Array.getElem?_eq_some_iff.1 hk).1 (fun e => by rw [hr k o e.symm hk] at hb; cases hb)).trans hk
theorem KeepsB.set_ {W : World} {p : Addr} {cs : Array Value} {t : TypeId} {fz : Nat × Nat} (h : W.heap[p.block]? = some (.cells cs t fz)) (u : Value) : KeepsB W (W.setCell p u) := fun k o hk hb => by
  refine (Below.heap_setCell W p u k ?_).trans hk
  rintro rfl
  rw [h] at hk
  cases hk
  cases hb
theorem Own.book {w : World} {base size n c : Nat} {e : TypeId} {A : Option Addr} {xs : List Value} (h : Own w base e size A n c xs) : ∀ (k : Nat) (o : Obj), bl A = some k → w.heap[k]? = some o → bookO o = false := fun k o hk ho => by
  rcases h.1.2 with ⟨hh, _⟩ | ⟨gb, cap, cur, hh, _, hgb, _⟩
  · cases hh
    cases hk
  · cases hh
    cases hk
    rw [hgb] at ho
    cases ho
    rfl
theorem KeepsB.trans {A B C : World} (h : KeepsB A B) (k : KeepsB B C) : KeepsB A C := fun i o hi hb => k i o (h i o hi hb) hb
/-- What is said abides growth, and a turn of the books. -/
def Bides {σ : Type} (B : Nat) (I : σ → World → Prop) : Prop :=
  (∀ s W W', I s W → Below W.heap.size W W' → I s W') ∧ ∀ s W (k : Nat) (o o' : Obj), I s W → B ≤ k → W.heap[k]? = some o → bookO o = true → I s (W.putObj k o')
theorem below_alloc_book (w : World) (o : Obj) : Below w.heap.size w (w.alloc o) := (Below.refl _ _).alloc (Nat.le_refl _) o
/-- The books lie so, and X holds. -/
def Booked (X : World → Prop) (D : Nat) (o : Obj) (W : World) : Prop := X W ∧ W.heap[D]? = some (.deferred (some [])) ∧ W.heap[D + 1]? = some o
theorem Booked.up {X : World → Prop} {D : Nat} {o : Obj} {W W' : World} (hX : X W → X W') (h : Booked X D o W) (b : Below W.heap.size W W') : Booked X D o W' :=
  ⟨hX h.1, (b.block _ (Array.getElem?_eq_some_iff.1 h.2.1).1).trans h.2.1, (b.block _ (Array.getElem?_eq_some_iff.1 h.2.2).1).trans h.2.2⟩
def bidePost {σ : Type} (I : σ → World → Prop) (Ix : Code → World → Prop) (s : σ) (W : World) : Exit → Act → World → Prop
  | .normal, _, W' => KeepsB W W' ∧ I s W'
  | .ret, _, W' => KeepsB W W' ∧ Ix .ret W'
  | _, _, _ => False
/-- What an iterator (a method value) promises: from state s0 each of its steps meets a round; it ends in a last state, or where a round has said 'no more'. -/
def IterM {σ α : Type} (n : Nat) (P : Program) (gf : Nat) (fst : Array Value) (enc : α → Array Value) (Tb : World → Prop) (s0 : σ) (step : σ → α → σ → Prop) (fin : σ → Prop) (skip : σ → σ → Prop) : Prop :=
  ∀ (l : Nat) (J : σ → World → Prop) (Jx : World → Prop) (W : World), (∀ s W W', J s W → Below W.heap.size W W' → J s W') → (∀ W W', Jx W → Below W.heap.size W W' → Jx W') →
    (∀ s W, J s W → Tb W) → (∀ s s' W, skip s s' → J s W → J s' W) →
    (∀ s x s' W1, step s x s' → J s W1 → YieldAt Fence.wide (n - 1) P l (enc x) W1 fun e W' => (e = .returned (.bool true) ∧ J s' W') ∨ (e = .returned (.bool false) ∧ Jx W')) →
    J s0 W → CallsIn Fence.wide n P gf (fst ++ #[.func (.yield l) #[] #[]]) W fun e W' => (∃ v, e = .returned v) ∧ ((∃ s, fin s ∧ J s W') ∨ Jx W')
variable {P : Program}
set_option maxHeartbeats 400000 in
theorem wp_rangeM {σ α : Type} {n : Nat} {g : Operand} {ps : Array Tmp} {assign body : Code} {Q : Exit → Act → World → Prop} {a : Act} {w : World} {gf : Nat} {fst : Array Value}
    (hg : a.eval g = .func (.func gf) fst #[]) (eg : ∀ args w, (callFunc gf args).run P w = .ok (.enter gf args) w)
    {enc : α → Array Value} {Tb : World → Prop} {s0 : σ} {step : σ → α → σ → Prop} {fin : σ → Prop} {skip : σ → σ → Prop} (hit : IterM (n - 1) P gf fst enc Tb s0 step fin skip) (hps : ∀ x, (enc x).size = ps.size)
    (I : σ → World → Prop) (Ix : Code → World → Prop) (hI : Bides w.heap.size I) (hIx : Bides w.heap.size Ix) (hT : ∀ s W, I s W → Tb W) (hsk : ∀ s s' W, skip s s' → I s W → I s' W) (h0 : I s0 w) (a₁ : α → Act)
    (hassign : ∀ (l : Nat) (x : α) (W : World) (K : Act → World → Prop), K (a₁ x) W →
      assign.wpIn (Fence.wide.inRound l) (n - 1 - 1) P (Exit.then K (fun _ _ _ => False)) { tmps := (ps.zip (enc x)).foldl (fun t (p, v) => t.setIfInBounds p v) a.tmps, defers := [] } W)
    (hbody : ∀ (l : Nat) (s : σ) (x : α) (s' : σ) (W : World), step s x s' → I s W → body.wpIn (Fence.wide.inRound l) (n - 1 - 1) P (bidePost I Ix s' W) (a₁ x) W)
    (hdone : ∀ (D : Nat) (s : σ) (W : World), w.heap.size ≤ D → fin s → I s W → W.heap[D]? = some (.deferred (some [])) → Q .normal { a with defers := { target := .collected D, args := #[] } :: a.defers } W)
    (hstop : ∀ (D : Nat) (W : World), w.heap.size ≤ D → Ix .ret W → W.heap[D]? = some (.deferred (some [])) → Code.ret.wpIn Fence.wide n P Q { a with defers := { target := .collected D, args := #[] } :: a.defers } W) :
    (Code.rangeFunc g ps assign body).wpIn Fence.wide n P Q a w := by
  refine wpIn_rangeFunc (fun fn _ => ?_)
  obtain ⟨bk, eb⟩ : ∃ bk : LoopState → Option Code → Loop, ∀ st pe, bk st pe = { state := st, pending := pe, fn := fn, tmps := a.tmps, params := ps, assign := assign, body := body, defers := w.heap.size } := ⟨_, fun _ _ => rfl⟩
  have hst : ∀ st pe, (bk st pe).state = st := fun st pe => by rw [eb]
  have hpe : ∀ st pe, (bk st pe).pending = pe := fun st pe => by rw [eb]
  have bb : ∀ {W : World} {l : Nat}, W.heap[l]? = some (.loop (bk .ready none)) → (Instr.beginRound l).run P W = .ok () (W.putObj l (.loop (bk .busy none))) := fun {W l} h => by
    have := run_beginRound (P := P) h (hst _ _)
    rw [eb] at this
    rw [eb]
    exact this
  have be : ∀ {W : World} {l : Nat} (jump : Option Code) (st : LoopState), (if jump.isNone then LoopState.ready else LoopState.done) = st → W.heap[l]? = some (.loop (bk .busy none)) → (Instr.endRound l jump).run P W = .ok (.bool jump.isNone) (W.putObj l (.loop (bk st jump))) := fun {W l} jump st e h => by
    have := run_endRound (P := P) jump h
    rw [e, eb] at this
    rw [eb]
    exact this
  have bx : ∀ {W : World} {l : Nat} (st : LoopState) (pe : Option Code), st ≠ .busy → W.heap[l]? = some (.loop (bk st pe)) → (Instr.endLoop l).run P W = .ok pe (W.putObj l (.loop (bk .exhausted pe))) := fun {W l} st pe hne h => by
    have := run_endLoop (P := P) h (by rw [hst]; exact hne)
    rw [eb] at this
    rw [eb]
    exact this
  obtain ⟨W1, hW1⟩ : ∃ W1, (w.alloc (.deferred (some []))).alloc (.loop (bk .ready none)) = W1 := ⟨_, rfl⟩
  have hD : w.heap.size < W1.heap.size := by rw [← hW1]; simp; omega
  have hbook : W1.heap[w.heap.size]? = some (.deferred (some [])) ∧ W1.heap[w.heap.size + 1]? = some (.loop (bk .ready none)) := by
    rw [← hW1]
    refine ⟨(Below.heap_alloc _ _ _ (by simp)).trans (World.alloc_heap_new w _), ?_⟩
    have := World.alloc_heap_new (w.alloc (.deferred (some []))) (.loop (bk .ready none))
    rwa [World.size_alloc] at this
  have hI1 : I s0 W1 := by
    rw [← hW1]
    exact hI.1 _ _ _ (hI.1 _ _ _ h0 (below_alloc_book _ _)) (below_alloc_book _ _)
  have hcall := hit (w.heap.size + 1) (fun s => Booked (I s) w.heap.size (.loop (bk .ready none))) (Booked (Ix .ret) w.heap.size (.loop (bk .done (some .ret)))) W1
    (fun s W W' h b => h.up (fun h' => hI.1 _ _ _ h' b) b)
    (fun W W' h b => h.up (fun h' => hIx.1 _ _ _ h' b) b)
    (fun s W h => hT s W h.1)
    (fun s s' W hs h => ⟨hsk s s' W hs h.1, h.2⟩)
    (fun s x s' W hst h => by
      obtain ⟨hi, hk, hl⟩ := h
      have hy := run_yield (P := P) (args := enc x) hl (by rw [eb]; exact hps x)
      rw [eb] at hy
      simp only at hy
      have hlt : w.heap.size + 1 < W.heap.size := (Array.getElem?_eq_some_iff.1 hl).1
      refine ⟨fn, _, assign, body, hy, roundIn_of_wpIn trivial (hassign _ x W _ ⟨_, bb hl, ?_⟩)⟩
      have hbusy : (W.putObj (w.heap.size + 1) (.loop (bk .busy none))).heap[w.heap.size + 1]? = some (.loop (bk .busy none)) := World.putObj_heap_same hlt
      have hdef : (W.putObj (w.heap.size + 1) (.loop (bk .busy none))).heap[w.heap.size]? = some (.deferred (some [])) := (World.putObj_heap_other (by omega)).trans hk
      refine wpIn_mono (hbody _ s x s' _ hst (hI.2 _ _ _ _ (.loop (bk .busy none)) hi (by omega) hl rfl)) ?_
      intro e a3 W3 hp
      have last : ∀ (jump : Option Code), KeepsB (W.putObj (w.heap.size + 1) (.loop (bk .busy none))) W3 → ∀ st, (if jump.isNone then LoopState.ready else LoopState.done) = st →
          (Instr.endRound (w.heap.size + 1) jump).run P W3 = .ok (.bool jump.isNone) (W3.putObj (w.heap.size + 1) (.loop (bk st jump))) ∧ W3.heap[w.heap.size + 1]? = some (.loop (bk .busy none)) ∧
          (W3.putObj (w.heap.size + 1) (.loop (bk st jump))).heap[w.heap.size + 1]? = some (.loop (bk st jump)) ∧ (W3.putObj (w.heap.size + 1) (.loop (bk st jump))).heap[w.heap.size]? = some (.deferred (some [])) := by
        rintro jump hkb st rfl
        have h3 := hkb _ _ hbusy rfl
        exact ⟨be jump _ rfl h3, h3, World.putObj_heap_same (Array.getElem?_eq_some_iff.1 h3).1, (World.putObj_heap_other (by omega)).trans (hkb _ _ hdef rfl)⟩
      cases e with
      | normal =>
        obtain ⟨hkb, hi3⟩ := hp
        obtain ⟨hr, h3, h4, h5⟩ := last none hkb .ready rfl
        exact ⟨_, _, hr, .inl ⟨rfl, hI.2 _ _ _ _ _ hi3 (by omega) h3 rfl, h5, h4⟩⟩
      | ret =>
        obtain ⟨hkb, hi3⟩ := hp
        obtain ⟨hr, h3, h4, h5⟩ := last (some .ret) hkb .done rfl
        exact ⟨_, _, hr, .inr ⟨rfl, hIx.2 _ _ _ _ _ hi3 (by omega) h3 rfl, h5, h4⟩⟩
      | exit id => exact hp.elim
      | goto t => exact hp.elim
      | panic ch => exact hp.elim
      | outgrown => exact hp.elim)
    ⟨hI1, hbook.1, hbook.2⟩
  have hen : (Instr.enterLoop fn a.tmps ps assign body Fence.wide.round).run P w = .ok (w.heap.size + 1, [{ target := .collected w.heap.size, args := #[] }]) W1 := by
    rw [← hW1, eb]
    exact run_enterLoop_outer _ _ _ _ _
  have hres : (resolve a.eval (rangeCall g (w.heap.size + 1)) 0).run P W1 = .ok { target := .fn (.func gf) #[], args := fst ++ #[.func (.yield (w.heap.size + 1)) #[] #[]] } W1 := by
    simp only [resolve, hg]
    simp [go_sem]
  have hinv : (invoke (.fn (.func gf) #[]) (fst ++ #[.func (.yield (w.heap.size + 1)) #[] #[]])).run P W1 = .ok (.enter gf (fst ++ #[.func (.yield (w.heap.size + 1)) #[] #[]])) W1 := by
    simp [invoke, go_sem, eg]
  refine ⟨_, _, _, _, _, _, _, _, hen, hres, fun f' _ => trivial, hinv, fun h => absurd h (by decide), ?_⟩
  refine CallsIn.mono hcall ?_
  rintro e W2 ⟨⟨v, rfl⟩, h⟩
  rcases h with ⟨s, hf, hi, hk, hl⟩ | ⟨hi, hk, hl⟩
  · exact ⟨none, _, bx _ _ (by simp) hl, hdone _ s _ (Nat.le_refl _) hf (hI.2 s W2 _ _ (.loop (bk .exhausted none)) hi (by omega) hl rfl) ((World.putObj_heap_other (by omega)).trans hk)⟩
  · exact ⟨some .ret, _, bx _ _ (by simp) hl, hstop _ _ (Nat.le_refl _) (hIx.2 .ret W2 _ _ (.loop (bk .exhausted (some .ret))) hi (by omega) hl rfl) ((World.putObj_heap_other (by omega)).trans hk)⟩

/-! ### A region that draws its order, within a round -/
def noDeferB (ops : Array Oper) : Bool := ops.all fun o => match o.op with | .defer _ => false | _ => true
theorem wpIn_of_wp_op {n l : Nat} {o : Oper} {a : Act} {w : World} {K : Act → World → Prop} {Q : Exit → Act → World → Prop} (ho : ∀ c, o.op ≠ .defer c) (h : o.wp P a w K Q) : o.wpIn (Fence.wide.inRound l) n P a w K Q := by
  unfold Oper.wp at h
  unfold Oper.wpIn
  refine ⟨fun f _ => trivial, ?_⟩
  rw [Oper.semAt_plain _ _ _ ho]
  generalize (execOp a.eval o).run P w = r at *
  cases r with
  | ok x w' =>
    cases x <;> simp only [Oper.upon, Oper.uponIn] at h ⊢ <;>
      first
        | exact h
        | exact ⟨fun h => Bool.noConfusion h, CallsIn.inRound l (callsIn_wide.2 h)⟩
        | exact ⟨fun h => Bool.noConfusion h, fun c cs hr => let ⟨v, w', r, s⟩ := h c cs; ⟨v, w', r, stepsIn_wide.2 s⟩⟩
  | halt x w' => cases x <;> simp only [Oper.upon, Oper.uponIn] at h ⊢ <;> exact h
theorem wpAny_in {n l : Nat} {ops : Array Oper} {Q : Exit → Act → World → Prop} {md : Region.Mode} (hd : noDeferB ops = true) (hL : ¬ LetsOut Q) : ∀ (fuel : Nat) (listed : Array Bool) (a : Act) (w : World), wpAny P md ops Q fuel listed a w → wpAnyIn (Fence.wide.inRound l) n P md ops Q fuel listed a w
  | 0, _, _, _, h => h
  | fuel + 1, listed, a, w, h => by
    refine ⟨h.1, fun i hi => ?_⟩
    have h2 := wpOp_mono (fun a' w' h' => wpAny_in (n := n) (l := l) hd hL fuel (listed.setIfInBounds i true) a' w' h') (h.2 i hi)
    unfold wpOp at h2
    unfold wpOpIn
    split
    · rename_i ho
      simp only [ho] at h2
      exact h2
    · rename_i o ho
      simp only [ho] at h2
      have hno : ∀ c, o.op ≠ .defer c := fun c hc => by
        have := (Array.all_eq_true_iff_forall_mem.1 hd) o (Array.mem_of_getElem? ho)
        rw [hc] at this
        cases this
      split
      · rename_i hw
        rw [if_pos hw] at h2
        rcases h2 with h2 | h2
        · exact wpIn_of_wp_op hno h2
        · exact absurd h2.2 hL
      · rename_i hw
        rw [if_neg hw] at h2
        exact ⟨fun f _ => trivial, h2⟩
theorem wpIn_region_held_drew {n l id : Nat} {ops : Array Oper} {Q : Exit → Act → World → Prop} {S : World → Prop} {a : Act} {w : World} (hm : P.follows .mixedOrders = true) (hd : noDeferB ops = true) (hL : ¬ LetsOut Q) (hS : S w.drew)
    (h : S w.drew → wpAnyH P .any ops Q S ops.size (Array.replicate ops.size false) a w.drew) : (Code.region id ops true).wpIn (Fence.wide.inRound l) n P Q a w :=
  wpIn_region_any hm (wpAny_in hd hL _ _ _ _ (wpAny_of_held _ _ _ _ (h hS)))

/-! ### What a table knows, plainly -/
/-- Is a device another one? -/
def othB (own : Int) (n : Nat) (d : Int) : Bool := decide (0 ≤ d) && decide (d < (n : Int)) && decide (d ≠ own)
/-- What is known of a device. -/
def knownL (own : Int) (K : List (List Dt)) (d : Int) : List Dt := if othB own K.length d = true then K[d.toNat]?.getD [] else []
/-- The others among the first d devices. -/
def othersTo (own : Int) (d : Nat) : List Int := ((List.range d).filter fun (i : Nat) => decide ((i : Int) ≠ own)).map fun (i : Nat) => (i : Int)
/-- What is stable by the first d devices. -/
def stabTo (own : Int) (K : List (List Dt)) (v : List Dt) : Nat → List Dt
  | 0 => v
  | d + 1 => if (d : Int) = own then stabTo own K v d else rmeet (stabTo own K v d) (K[d]?.getD [])
def stabL (own : Int) (K : List (List Dt)) (v : List Dt) (c : Int) : List Dt := if c = 0 then stabTo own K v K.length else []
/-- Have the first d devices just the own marks? -/
def evenTo (own : Int) (K : List (List Dt)) (v : List Dt) (d : Nat) : Bool := (List.range d).all fun (i : Nat) => decide ((i : Int) = own) || decide (K[i]?.getD [] = v)
theorem othersTo_succ (own : Int) (d : Nat) : othersTo own (d + 1) = othersTo own d ++ (if (d : Int) = own then [] else [(d : Int)]) := by
  unfold othersTo
  rw [List.range_succ, List.filter_append, List.map_append]
  congr 1
  by_cases h : (d : Int) = own <;> simp [h]
theorem othersTo_len (own : Int) (d : Nat) : (othersTo own d).length ≤ d := by
  unfold othersTo
  rw [List.length_map]
  exact Nat.le_trans (List.length_filter_le _ _) (by simp)
theorem evenTo_succ (own : Int) (K : List (List Dt)) (v : List Dt) (d : Nat) : evenTo own K v (d + 1) = (evenTo own K v d && (decide ((d : Int) = own) || decide (K[d]?.getD [] = v))) := by
  unfold evenTo
  rw [List.range_succ, List.all_append]
  simp
theorem evenTo_no {own : Int} {K : List (List Dt)} {v : List Dt} {d n : Nat} (hd : d < n) (h1 : (d : Int) ≠ own) (h2 : K[d]?.getD [] ≠ v) : evenTo own K v n = false := by
  unfold evenTo
  rw [List.all_eq_false]
  exact ⟨d, List.mem_range.2 hd, by simp [h1, h2]⟩
/-- All that is known may be. -/
def KVw (K : List (List Dt)) : Prop := ∀ M ∈ K, Vw M
theorem KVw.get {K : List (List Dt)} (h : KVw K) (d : Nat) : Vw (K[d]?.getD []) := by
  cases e : K[d]? with
  | none => exact Vw.nil
  | some M => exact h M (List.mem_of_getElem? e)
theorem KVw.set {K : List (List Dt)} (h : KVw K) (d : Nat) {M : List Dt} (hM : Vw M) : KVw (K.set d M) := fun x hx => by
  rcases List.mem_or_eq_of_mem_set hx with h1 | h1
  · exact h x h1
  · subst h1; exact hM
theorem KVw.zero (n : Nat) : KVw (List.replicate n []) := fun x hx => by rw [List.eq_of_mem_replicate hx]; exact Vw.nil
theorem Vw.stab {own : Int} {K : List (List Dt)} {v : List Dt} (hv : Vw v) (d : Nat) : Vw (stabTo own K v d) := by
  induction d with
  | zero => exact hv
  | succ d ih =>
    unfold stabTo
    split
    · exact ih
    · exact ih.meet
theorem rcov_both {M O : List Dt} (h : Vw M) (k : Vw O) : (rcov M O && rcov O M) = decide (M = O) := by
  by_cases e : M = O
  · subst e
    rw [decide_eq_true rfl, (rcov_iff h h).2 (fun a => Int.le_refl _)]
    rfl
  · rw [decide_eq_false e, Bool.and_eq_false_iff]
    by_cases h1 : rcov M O = true
    · right
      rw [Bool.eq_false_iff]
      exact fun h2 => e (vw_ext h k fun a => Int.le_antisymm ((rcov_iff k h).1 h2 a) ((rcov_iff h k).1 h1 a))
    · left
      exact Bool.eq_false_iff.2 h1
/-- What is heard of a device. -/
def heardE (own : Int) (n : Nat) (d : Int) (c : Int) : Int := if othB own n d = true then c else 16
def heardK (own : Int) (K : List (List Dt)) (d : Int) (L : List Dt) (c : Int) : List (List Dt) := if heardE own K.length d c = 0 then K.set d.toNat (rjoin (K[d.toNat]?.getD []) L) else K
theorem heardK_len (own : Int) (K : List (List Dt)) (d : Int) (L : List Dt) (c : Int) : (heardK own K d L c).length = K.length := by
  unfold heardK
  split
  · simp
  · rfl
theorem KVw.heard {K : List (List Dt)} (h : KVw K) (own d : Int) (L : List Dt) (c : Int) : KVw (heardK own K d L c) := by
  unfold heardK
  split
  · exact h.set _ ((h.get _).join _)
  · exact h
end Go.Proofs.Ytailbppddnegoaa
