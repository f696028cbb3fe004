/- Layer 36 (peers): Others, Stable, Even. -/
import Derived.Test.YtailbppddnegoaaR3
namespace Go.Proofs.Ytailbppddnegoaa
open Go.RowKit Go.Shelf
set_option linter.unusedVariables false
set_option maxRecDepth 100000
attribute [local go_sem] Oper.semAt_some

theorem info_int : (Try.prog.info? 3).map (fun i => (i.zero, i.size, i.bytes)) = some (some (.int .i64 0), 1, 8) := by kernel_rfl
/-- 'append' of one whole number, laid in a block of its own ahead of it. -/
theorem appI (w : World) (base : Nat) (A : Option Addr) (n c : Nat) (xs : List Value) (hown : Own w base 3 1 A n c xs) (p : Int) (hlen : n ≤ 3000000000) (hbase : base ≤ w.heap.size) :
    ∃ A2 c2 w', (Builtin.append_ #[94, 94] 94 #[.slice A n c, .slice (some ⟨w.heap.size, 0, none⟩) 1 1]).run Try.prog (w.alloc (.cells #[.int .i64 p] 3)) = .ok (.slice A2 (n + 1) c2) w' ∧
      Own w' base 3 1 A2 (n + 1) c2 (xs ++ [.int .i64 p]) ∧ (w.alloc (.cells #[.int .i64 p] 3)).grownBy w' (bl A) ∧ Below base w w' := by
  obtain ⟨i0, hi, hz0, hz1, hz2⟩ := info_parts info_int
  have hr : Rd (w.alloc (.cells #[.int .i64 p] 3)) (w.heap.size + 1) 1 (some ⟨w.heap.size, 0, none⟩) 1 [.int .i64 p] := Rd.fresh w #[.int .i64 p] 3 1 rfl
  obtain ⟨A2, c2, w', h1, h2, h3, _⟩ := run_append_rdn (P := Try.prog) (w.alloc (.cells #[.int .i64 p] 3)) 94 94 base 3 i0 (.int .i64 0) 1 8 Try.underlying94 hi hz0 hz1 hz2 rfl (by decide) (by decide) A n c xs (hown.alloc _) (w.heap.size + 1) _ 1 1 [.int .i64 p] hr (by simp [Value.oneCell']) (by omega) (by simp; omega)
  refine ⟨A2, c2, w', h1, h2, h3, ((Below.refl base w).alloc hbase _).grown h3 (by simp; omega) fun k hk => ?_⟩
  exact (hown.block_lt k (by rw [ownBlock_bl]; exact hk)).1
/-- Whole numbers as cells. -/
def iv (l : List Int) : List Value := l.map (Value.int .i64)
/-- A list of whole numbers that the call has made. -/
def NewIs (w : World) (L : List Int) (e : Ending) (w' : World) : Prop := ∃ A c, e = .returned (.slice A L.length c) ∧ Own w' w.heap.size 3 1 A L.length c (iv L) ∧ Below w.heap.size w w'
theorem wpListIn_append_runs {F : Fence} {n : Nat} {P : Program} {w : World} {ops : Array Oper} {rest : List Oper} {o : Oper} {a : Act} {Q : Exit → Act → World → Prop} (hg : o.guard = none) (s x : Operand) (t tn : TypeId)
    (ho : o.op = .call { callee := .builtin .append, args := #[s, x], argTypes := #[t, tn] }) (vs vx : Value) (hs : a.eval s = vs) (hx : a.eval x = vx)
    (v' : Value) (w' : World) (hr : (Builtin.append_ #[t, tn] o.type #[vs, vx]).run P w = .ok v' w') (h : wpListIn F n P ops Q rest (a.put o.dst v') w') : wpListIn F n P ops Q (o :: rest) a w := by
  refine wpListIn_plain hg fun K hK' => ?_
  unfold Oper.wpIn
  refine ⟨?_, ?_⟩
  · simp [Oper.about, ho, resolve, Target.leads, Sem.run_pure]
  · rw [Oper.semAt_plain F _ _ (by rw [ho]; intro c hc'; cases hc')]
    simp [execOp, ho, resolve, invoke, builtin, hs, hx, hr, Result.andThen]
    exact hK' _ _ h
theorem Whole.putBook {W : World} {g k : Nat} {t : TypeId} {cs : Array Value} {o o' : Obj} (h : Whole W g t cs) (hk : W.heap[k]? = some o) (hb : bookO o = true) : Whole (W.putObj k o') g t cs := by
  refine (World.putObj_heap_other ?_).trans h
  rintro rfl
  unfold Whole at h
  rw [hk] at h
  cases h
  cases hb
theorem Own.putBook {W : World} {base size n c k : Nat} {e : TypeId} {A : Option Addr} {xs : List Value} {o o' : Obj} (h : Own W base e size A n c xs) (hk : W.heap[k]? = some o) (hb : bookO o = true) : Own (W.putObj k o') base e size A n c xs :=
  ⟨ownsRow_putObj h.1 o' hk (by cases o <;> simp_all [bookO, Obj.isCells]), h.2⟩
theorem below_putBook {W : World} {N k : Nat} {w : World} {o' : Obj} (h : Below N w W) (hk : N ≤ k) : Below N w (W.putObj k o') := by
  refine ⟨h.os, h.tape, h.output, by simpa using h.size, fun j hj => (World.putObj_heap_other (by omega)).trans (h.block j hj)⟩
theorem putObj_cell {W : World} {k : Nat} {o o' : Obj} {p : Addr} {u : Value} (hk : W.heap[k]? = some o) (hb : bookO o = true) (hc : W.cell? p = some u) : (W.putObj k o').cell? p = some u := by
  refine (World.cell?_of_block (World.putObj_heap_other ?_)).trans hc
  rintro rfl
  unfold World.cell? at hc
  rw [hk] at hc
  cases o <;> simp_all [bookO]
theorem VecIs.putBook {W : World} {v b k : Nat} {M : List Dt} {o o' : Obj} (h : VecIs W v b M) (hk : W.heap[k]? = some o) (hb : bookO o = true) : VecIs (W.putObj k o') v b M := by
  refine h.block (World.putObj_heap_other ?_) (World.putObj_heap_other ?_)
  · rintro rfl
    have h1 := h.1
    unfold Whole at h1
    rw [hk] at h1
    cases h1
    cases hb
  · rintro rfl
    obtain ⟨es, clock, hb', _⟩ := h.2.1.1
    rw [hk] at hb'
    cases hb'
    cases hb
theorem TabIs.putBook {W : World} {t c k : Nat} {own : Int} {A : Option Addr} {Vs : List Vn} {o o' : Obj} (h : TabIs W t own A c Vs) (hk : W.heap[k]? = some o) (hb : bookO o = true) : TabIs (W.putObj k o') t own A c Vs := by
  refine ⟨h.blk.putBook hk hb, ⟨h.rd.1, fun hn => ?_⟩, fun x hx => (h.vec x hx).putBook hk hb, h.nd, h.len, h.cap⟩
  obtain ⟨b, off, hA, hlt, hc⟩ := h.rd.2 hn
  exact ⟨b, off, hA, by simpa using hlt, fun j u hu => putObj_cell hk hb (hc j u hu)⟩
/-- What the loop of Others has. -/
def OthI (w : World) (N : Nat) (t : Nat) (own : Int) (A : Option Addr) (c : Nat) (Vs : List Vn) (s : Nat) (W : World) : Prop :=
  s ≤ Vs.length ∧ ∃ A' c', Whole W N 94 #[.slice A' (othersTo own s).length c'] ∧ Own W N 3 1 A' (othersTo own s).length c' (iv (othersTo own s)) ∧ TabIs W t own A c Vs ∧ Below N w W
theorem OthI.bides (w : World) (N : Nat) (t : Nat) (own : Int) (A : Option Addr) (c : Nat) (Vs : List Vn) (B : Nat) (hB : N ≤ B) (hN : w.heap.size = N) : Bides B (OthI w N t own A c Vs) := by
  refine ⟨?_, ?_⟩
  · rintro s W W' ⟨hs, A', c', h1, h2, h3, h4⟩ b
    exact ⟨hs, A', c', h1.below b h1.lt, h2.below b (Nat.le_refl _), h3.up b, h4.trans (below_of_le b (hN ▸ h4.size))⟩
  · rintro s W k o o' ⟨hs, A', c', h1, h2, h3, h4⟩ hBk hk hb
    exact ⟨hs, A', c', h1.putBook hk hb, h2.putBook hk hb, h3.putBook hk hb, below_putBook h4 (by omega)⟩
set_option maxHeartbeats 1000000 in
theorem ptothers_any (w : World) (t : Nat) (own : Int) (A : Option Addr) (c : Nat) (Vs : List Vn) (h : TabIs w t own A c Vs) :
    Calls Try.prog 65 #[.pointer (some ⟨t, 0, none⟩)] w (NewIs w (othersTo own Vs.length)) := by
  have HT := Lib.hid h
  have hlen := h.len
  clear h
  refine (callsIn_wide (n := 9)).1 ?_
  have h1 : 1 ≤ 9 := by omega
  generalize hN : w.heap.size = N at *
  refine callsIn_of_wp_marks Try.func65 rfl trivial ?_ rfl
  simp only [Try.ntmps65, List.size_toArray, List.length_cons, List.length_nil, Nat.reduceAdd, Nat.reduceSub, Array.replicate_succ, Array.replicate_zero, List.push_toArray, List.append_toArray, List.nil_append, List.cons_append]
  gi_wp2
  have H0 := Lib.hid (show OthI w N t own A c Vs 0 (w.alloc (.cells #[.slice none 0 0] 94)) from by
    have b0 : Below N w (w.alloc (.cells #[.slice none 0 0] 94)) := (Below.refl N w).alloc (by omega) _
    refine ⟨Nat.zero_le _, none, 0, ?_, Own.nil_, HT.out.up (by rw [hN]; exact b0), b0⟩
    have := Whole.new w 94 #[.slice none 0 0]
    rw [hN] at this
    exact this)
  have hsz : N < (w.alloc (.cells #[.slice none 0 0] 94)).heap.size := by simp; omega
  generalize (w.alloc (.cells #[.slice none 0 0] 94)) = W0 at *
  refine wp_rangeM (gf := 70) (fst := #[.pointer (some ⟨t, 0, none⟩)]) rfl (enters_of Try.func70 (by kernel_rfl) rfl)
    (ptall_iter _ t own A c Vs) (fun _ => rfl) (OthI w N t own A c Vs) (fun _ _ => False) (OthI.bides w N t own A c Vs _ (by omega) hN) ⟨fun _ _ _ h => h.elim, fun _ _ _ _ _ h => h.elim⟩ (fun s W h => by obtain ⟨_, _, _, _, _, h, _⟩ := h; exact h)
    (fun s s' W hs h => ?skip) H0.out
    (fun x => { tmps := #[.pointer (some ⟨t, 0, none⟩), undef, .slice none 0 0, .pointer (some ⟨N, 0, none⟩), .int .i64 x, .pointer (some ⟨t, 0, none⟩), .func (.func 70) #[.pointer (some ⟨t, 0, none⟩)] #[], .int .i64 x, undef, undef, undef, undef, undef], defers := [] }) ?assign ?body ?done ?stop
  case skip =>
    obtain ⟨h1, h2, rfl⟩ := hs
    obtain ⟨hl, A', c', h3⟩ := h
    have e : othersTo own (s + 1) = othersTo own s := by rw [othersTo_succ, if_pos h2, List.append_nil]
    exact ⟨by omega, A', c', by rw [e]; exact h3⟩
  case assign =>
    intro l x W K hK
    gi_wp2
    exact hK
  case body =>
    rintro l s x s' W ⟨hs, ho, rfl, rfl⟩ ⟨hl, A', c', h1, h2, h3, h4⟩
    have e : othersTo own (s + 1) = othersTo own s ++ [(s : Int)] := by rw [othersTo_succ, if_neg ho]
    have hlo := othersTo_len own s
    have HW := Lib.hid h1
    have cN : W.cell? ⟨N, 0, none⟩ = some (.slice A' (othersTo own s).length c') := by rw [h1.cell]; rfl
    obtain ⟨A2, c2, w2, q2, o2, g2, b2⟩ := appI W N A' (othersTo own s).length c' (iv (othersTo own s)) h2 (s : Int) (by omega) (hN ▸ h4.size)
    have hbA : ∀ k, bl A' = some k → k ≠ N := fun k hk e' => by
      subst e'
      exact (h2.ne_ h1 (by decide)) (by rw [ownBlock_bl]; exact hk)
    have hW2 : Whole w2 N 94 #[.slice A' (othersTo own s).length c'] := (h1.alloc _).grown g2 (fun e' => hbA N e' rfl)
    have hA2 : bl A2 ≠ some N := fun e' => (o2.ne_ hW2 (by decide)) (by rw [ownBlock_bl]; exact e')
    have c2' : w2.cell? ⟨N, 0, none⟩ = some (.slice A' (othersTo own s).length c') := by rw [hW2.cell]; rfl
    have f2' : w2.frozen? ⟨N, 0, none⟩ = false := hW2.free 0
    have HF := Lib.hid (show OthI w N t own A c Vs (s + 1) (w2.setCell ⟨N, 0, none⟩ (.slice A2 ((othersTo own s).length + 1) c2)) ∧ KeepsB W (w2.setCell ⟨N, 0, none⟩ (.slice A2 ((othersTo own s).length + 1) c2)) from by
      have b3 : Below N w2 (w2.setCell ⟨N, 0, none⟩ (.slice A2 ((othersTo own s).length + 1) c2)) := (Below.refl N w2).setCell (Nat.le_refl _) _
      have e3 : (othersTo own (s + 1)).length = (othersTo own s).length + 1 := by rw [e]; simp
      refine ⟨⟨by omega, A2, c2, ?_, ?_, ?_, h4.trans (b2.trans b3)⟩, ?_⟩
      · rw [e3]
        exact hW2.set_ 0 _
      · rw [e3, e]
        have := o2.far (p := ⟨N, 0, none⟩) (by rw [ownBlock_bl]; exact hA2) (.slice A2 ((othersTo own s).length + 1) c2)
        unfold iv at this ⊢
        rw [List.map_append]
        exact this
      · exact TabIs.up HT.out (hN ▸ (h4.trans (b2.trans b3)))
      · exact ((KeepsB.below (below_alloc_book W _)).trans (KeepsB.grown g2 (fun k o hk ho => (h2.alloc _).book k o hk ho))).trans (KeepsB.set_ (p := ⟨N, 0, none⟩) hW2 _))
    have Q2 := Lib.hid q2
    clear q2 o2 g2 b2 hW2 hA2 hbA h1 h2 h3 h4 e
    gi_wp2_with (gi_at_builtin; refine wpListIn_append_runs rfl (.tmp 8) (.tmp 10) _ _ rfl _ _ rfl rfl _ _ Q2.out ?_)
    exact ⟨HF.out.2, HF.out.1⟩
  case done =>
    rintro D s W hD rfl ⟨hl, A', c', h1, h2, h3, h4⟩ hK
    have hc : W.cell? ⟨N, 0, none⟩ = some (.slice A' (othersTo own Vs.length).length c') := by rw [h1.cell]; rfl
    gi_wp2
    refine ⟨by simp, .inl ⟨_, _, rfl, run_takeDeferred hK, ?_⟩⟩
    refine ⟨_, results_tmp rfl _ _ _, A', c', rfl, ?_, ?_⟩
    · rw [hN]
      exact h2.putBook hK rfl
    · rw [hN]
      exact below_putBook h4 (by omega)
  case stop =>
    rintro D W _ h _
    exact h.elim
/-- What the loop of Stable has. -/
def StbI (w : World) (N bt bv : Nat) (t : Nat) (own : Int) (A : Option Addr) (c : Nat) (Vs : List Vn) (L : List Dt) (s : Nat) (W : World) : Prop :=
  s ≤ Vs.length ∧ ∃ v b, Whole W bt 62 #[.pointer (some ⟨t, 0, none⟩)] ∧ Whole W bv 29 #[.pointer (some ⟨v, 0, none⟩)] ∧ VecIs W v b (stabTo own (tabK Vs) L s) ∧ TabIs W t own A c Vs ∧ Below N w W
theorem StbI.bides (w : World) (N bt bv : Nat) (t : Nat) (own : Int) (A : Option Addr) (c : Nat) (Vs : List Vn) (L : List Dt) (B : Nat) (hB : N ≤ B) (hN : w.heap.size = N) : Bides B (StbI w N bt bv t own A c Vs L) := by
  refine ⟨?_, ?_⟩
  · rintro s W W' ⟨hs, v, b, h0, h1, h2, h3, h4⟩ bl
    exact ⟨hs, v, b, h0.below bl h0.lt, h1.below bl h1.lt, h2.up bl, h3.up bl, h4.trans (below_of_le bl (hN ▸ h4.size))⟩
  · rintro s W k o o' ⟨hs, v, b, h0, h1, h2, h3, h4⟩ hBk hk hb
    exact ⟨hs, v, b, h0.putBook hk hb, h1.putBook hk hb, h2.putBook hk hb, h3.putBook hk hb, below_putBook h4 (by omega)⟩
set_option maxHeartbeats 1000000 in
theorem ptstable_yes (w : World) (t : Nat) (own : Int) (A : Option Addr) (c : Nat) (Vs : List Vn) (h : TabIs w t own A c Vs) (Al : Option Addr) (cl : Nat) (L : List Dt) (hr : MsAt w Al L) (hn : L.length ≤ 9223372036854775807) (hc : chkE L = 0) :
    Calls Try.prog 52 #[.pointer (some ⟨t, 0, none⟩), .slice Al L.length cl] w (SomeMs w (stabTo own (tabK Vs) L Vs.length)) := by
  have CF := Lib.hid (fun W (hr : MsAt W Al L) => (callsIn_wide (n := 8)).2 ((vcof_any W Al cl L hr hn).mono (fun e w' h => show ∃ v b, e = .returned (.tuple #[.pointer (some ⟨v, 0, none⟩), .int .i64 0]) ∧ W.heap.size ≤ v ∧ W.heap.size ≤ b ∧ VecIs w' v b L ∧ Below W.heap.size W w' from by
    unfold OfEnd at h
    rw [if_pos hc] at h
    exact h)))
  have CM := Lib.hid (fun W p q M O hp hq => vcmeet_any W p q M O hp hq)
  have CE := Lib.hid (fun W p M h => (callsIn_wide (n := 8)).2 (vcmarks_any W p M h))
  have HT := Lib.hid h
  have HR := Lib.hid hr
  have hlen := h.len
  have hcap := h.cap
  clear h hr hc
  refine (callsIn_wide (n := 9)).1 ?_
  generalize hN : w.heap.size = N at *
  generalize hnl : L.length = nl at *
  refine callsIn_of_wp_marks Try.func52 rfl trivial ?_ rfl
  simp only [Try.ntmps52, List.size_toArray, List.length_cons, List.length_nil, Nat.reduceAdd, Nat.reduceSub, Array.replicate_succ, Array.replicate_zero, List.push_toArray, List.append_toArray, List.nil_append, List.cons_append]
  have H0 := Lib.hid (show Whole (w.alloc (.cells #[.pointer (some ⟨t, 0, none⟩)] 62)) N 62 #[.pointer (some ⟨t, 0, none⟩)] ∧ Below N w (w.alloc (.cells #[.pointer (some ⟨t, 0, none⟩)] 62)) from by
    refine ⟨?_, (Below.refl N w).alloc (by omega) _⟩
    have := Whole.new w 62 #[.pointer (some ⟨t, 0, none⟩)]
    rw [hN] at this
    exact this)
  gi_wp2
  generalize (w.alloc (.cells #[.pointer (some ⟨t, 0, none⟩)] 62)) = W0 at *
  refine ⟨trivial, ?_⟩
  refine (CF.out _ (HR.out.up (hN ▸ H0.out.2))).mono ?_; rintro e w1 ⟨v, b, rfl, hv, hb, hvec, b1⟩
  have hz0 : N < W0.heap.size := H0.out.1.lt
  have cN1 : w1.cell? ⟨N, 0, none⟩ = some (.pointer (some ⟨t, 0, none⟩)) := by rw [(H0.out.1.below b1 hz0).cell]; rfl
  have cN2 : (w1.alloc (.cells #[.pointer (some ⟨v, 0, none⟩)] 29)).cell? ⟨N, 0, none⟩ = some (.pointer (some ⟨t, 0, none⟩)) := (World.cell?_alloc_some _ _ _ (by rw [cN1]; rfl)).trans cN1
  have H1 := Lib.hid (show StbI w N N w1.heap.size t own A c Vs L 0 (w1.alloc (.cells #[.pointer (some ⟨v, 0, none⟩)] 29)) from by
    have b2 : Below N w w1 := H0.out.2.trans (below_of_le b1 (by omega))
    exact ⟨Nat.zero_le _, v, b, (H0.out.1.below b1 hz0).alloc _, Whole.new _ _ _, hvec.alloc _, (HT.out.up (hN ▸ b2)).up (below_alloc_book _ _), b2.alloc (hN ▸ b2.size) _⟩)
  have hsz : N < w1.heap.size := by have := b1.size; omega
  clear cN1 hvec b1 H0 CF
  gi_wp2
  generalize hbv : w1.heap.size = bv at *
  have hsz2 : bv < (w1.alloc (.cells #[.pointer (some ⟨v, 0, none⟩)] 29)).heap.size := by simp; omega
  generalize (w1.alloc (.cells #[.pointer (some ⟨v, 0, none⟩)] 29)) = W1 at *
  refine wp_rangeM (gf := 70) (fst := #[.pointer (some ⟨t, 0, none⟩)]) rfl (enters_of Try.func70 (by kernel_rfl) rfl)
    (ptall_iter _ t own A c Vs) (fun _ => rfl) (StbI w N N bv t own A c Vs L) (fun _ _ => False) (StbI.bides w N N bv t own A c Vs L _ (by omega) hN) ⟨fun _ _ _ h => h.elim, fun _ _ _ _ _ h => h.elim⟩ (fun s W h => by obtain ⟨_, _, _, _, _, _, h, _⟩ := h; exact h)
    (fun s s' W hs h => ?skip) H1.out
    (fun x => { tmps := #[.pointer (some ⟨t, 0, none⟩), .slice Al nl cl, .pointer (some ⟨N, 0, none⟩), undef, .slice none 0 0, .pointer (some ⟨bv, 0, none⟩), .int .i64 0, .int .i64 x, .tuple #[.pointer (some ⟨v, 0, none⟩), .int .i64 0], .slice Al nl cl, .tuple #[.pointer (some ⟨v, 0, none⟩), .int .i64 0], .pointer (some ⟨v, 0, none⟩), .int .i64 0, .pointer (some ⟨t, 0, none⟩), .bool false, .bool false, .int .i64 0, .bool false, .bool false, .pointer (some ⟨t, 0, none⟩), .func (.func 70) #[.pointer (some ⟨t, 0, none⟩)] #[], .int .i64 x, undef, undef, undef, undef, undef, undef, undef, undef, undef, undef, undef], defers := [] }) ?assign ?body ?done ?stop
  case skip =>
    obtain ⟨h1, h2, rfl⟩ := hs
    obtain ⟨hl, v', b', h3⟩ := h
    have e : stabTo own (tabK Vs) L (s + 1) = stabTo own (tabK Vs) L s := by rw [stabTo, if_pos h2]
    exact ⟨by omega, v', b', by rw [e]; exact h3⟩
  case assign =>
    intro l x W K hK
    gi_wp2
    exact hK
  case body =>
    rintro l s x s' W ⟨hs, ho, rfl, rfl⟩ ⟨hl, v', b', h0, h1, h2, h3, h4⟩
    obtain ⟨x, hx⟩ : ∃ x, Vs[s]? = some x := ⟨Vs[s]'hs, List.getElem?_eq_getElem _⟩
    have e : stabTo own (tabK Vs) L (s + 1) = rmeet (stabTo own (tabK Vs) L s) x.M := by rw [stabTo, if_neg ho, tabK_get hx]
    obtain ⟨b0, o0, hA, hb0, c0, hvx⟩ := h3.at_ hx
    have cN := h0.cell 0
    have cv := h1.cell 0
    have ct := h3.c1
    change _ = some _ at cN
    change _ = some _ at cv
    have CM' := Lib.hid (CM.out W.drew _ _ _ _ h2.drew.at_ hvx.drew.at_)
    have HI := Lib.hid (show StbI w N N bv t own A c Vs L s W from ⟨hl, v', b', h0, h1, h2, h3, h4⟩)
    have HW := Lib.hid (And.intro h0 h1)
    have hbvW : bv < W.heap.size := h1.lt
    have htN : t < N := hN ▸ HT.out.blk.lt
    have hbN : b0 < N := by
      obtain ⟨b1, o1, hA1, hlt1, _⟩ := HT.out.at_ hx
      rw [hA] at hA1
      cases hA1
      exact hN ▸ hlt1
    clear h0 h1 h2 h3 h4 hvx
    subst hA
    generalize hnV : Vs.length = n at *
    gi_wp2
    refine wpIn_region_held_drew (S := (fun W => W.cell? ⟨N, 0, none⟩ = some (.pointer (some ⟨t, 0, none⟩)) ∧ W.cell? ⟨t, 1, none⟩ = some (.slice (some ⟨b0, o0, none⟩) n c) ∧ W.cell? ⟨b0, o0 + s, none⟩ = some (.pointer (some ⟨x.v, 0, none⟩)))) (by kernel_rfl) (by kernel_rfl) (by rintro ⟨_, _, h⟩; exact h) ?_ (fun hHeld => ?_)
    · (try dsimp only); exact ⟨cN, ct, c0⟩
    refine wpAnyH_take (i := 1) (v := ?_) rfl (by kernel_rfl) (by kernel_rfl) (by kernel_rfl) (fun _ _ _ h => h) (Or.inl ⟨by rfl, ?_⟩) (by assumption) ?_
    rotate_left
    first | (focus ((intro w hSw; (try dsimp only at hSw); go_simp); (try with_reducible rfl); done)) | fail
    try simp only [Act.put, List.getElem_toArray, List.getElem_cons_zero, List.getElem_cons_succ, List.setIfInBounds_toArray, List.set_cons_zero, List.set_cons_succ]
    refine wpAnyH_take (i := 2) (v := ?_) rfl (by kernel_rfl) (by kernel_rfl) (by kernel_rfl) (fun _ _ _ h => h) (Or.inl ⟨by rfl, ?_⟩) (by assumption) ?_
    rotate_left
    first | (focus ((intro w hSw; (try dsimp only at hSw); go_simp); (try with_reducible rfl); done)) | fail
    try simp only [Act.put, List.getElem_toArray, List.getElem_cons_zero, List.getElem_cons_succ, List.setIfInBounds_toArray, List.set_cons_zero, List.set_cons_succ]
    refine wpAnyH_take (i := 3) (v := ?_) rfl (by kernel_rfl) (by kernel_rfl) (by kernel_rfl) (fun _ _ _ h => h) (Or.inl ⟨by rfl, ?_⟩) (by assumption) ?_
    rotate_left
    first | (focus ((intro w hSw; (try dsimp only at hSw); go_simp); (try with_reducible rfl); done)) | fail
    try simp only [Act.put, List.getElem_toArray, List.getElem_cons_zero, List.getElem_cons_succ, List.setIfInBounds_toArray, List.set_cons_zero, List.set_cons_succ]
    refine wpAnyH_take (i := 4) (v := ?_) rfl (by kernel_rfl) (by kernel_rfl) (by kernel_rfl) (fun _ _ _ h => h) (Or.inl ⟨by rfl, ?_⟩) (by assumption) ?_
    rotate_left
    first | (focus ((intro w hSw; (try dsimp only at hSw); go_simp); (try with_reducible rfl); done)) | fail
    try simp only [Act.put, List.getElem_toArray, List.getElem_cons_zero, List.getElem_cons_succ, List.setIfInBounds_toArray, List.set_cons_zero, List.set_cons_succ]
    refine wpAnyH_take (i := 5) (v := ?_) rfl (by kernel_rfl) (by kernel_rfl) (by kernel_rfl) (fun _ _ _ h => h) (Or.inl ⟨by rfl, ?_⟩) (by assumption) ?_
    rotate_left
    first | (focus ((intro w hSw; (try dsimp only at hSw); go_simp); (try with_reducible rfl); done)) | fail
    try simp only [Act.put, List.getElem_toArray, List.getElem_cons_zero, List.getElem_cons_succ, List.setIfInBounds_toArray, List.set_cons_zero, List.set_cons_succ]
    refine wpAnyH_take (i := 6) (v := ?_) rfl (by kernel_rfl) (by kernel_rfl) (by kernel_rfl) (fun _ _ _ h => h) (Or.inl ⟨by rfl, ?_⟩) (by assumption) ?_
    rotate_left
    first | (focus ((intro w hSw; (try dsimp only at hSw); go_simp); (try with_reducible rfl); done)) | fail
    try simp only [Act.put, List.getElem_toArray, List.getElem_cons_zero, List.getElem_cons_succ, List.setIfInBounds_toArray, List.set_cons_zero, List.set_cons_succ]
    refine wpAnyH_take (i := 7) (v := ?_) rfl (by kernel_rfl) (by kernel_rfl) (by kernel_rfl) (fun _ _ _ h => h) (Or.inl ⟨by rfl, ?_⟩) (by assumption) ?_
    rotate_left
    first | (focus ((intro w hSw; (try dsimp only at hSw); go_simp); (try with_reducible rfl); done)) | fail
    try simp only [Act.put, List.getElem_toArray, List.getElem_cons_zero, List.getElem_cons_succ, List.setIfInBounds_toArray, List.set_cons_zero, List.set_cons_succ]
    refine wpAnyH_ready (rs := [0]) (by kernel_rfl) (by simp) ?_
    refine AllReadyH.cons rfl (fun K hK => ?_) AllReadyH.nil
    go_simp
    refine hK.out _ _ ?_ (fun hHeld => ?_)
    · (try dsimp only); exact hHeld
    clear hK K
    try simp only [Act.put, List.getElem_toArray, List.getElem_cons_zero, List.setIfInBounds_toArray, List.set_cons_zero, List.set_cons_succ]
    refine wpAnyH_ready (rs := [8]) (by kernel_rfl) (by simp) ?_
    refine AllReadyH.cons rfl (fun K hK => ?_) AllReadyH.nil
    go_simp
    refine CM'.out.mono ?_; rintro e2 w2 ⟨v2, b2, rfl, hv2, hb2, hvec2, bl2⟩
    go_wp2_with fail
    refine hK.out _ _ ?_ (fun hHeld => ?_)
    · (try dsimp only); exact ⟨(bl2.cell (by show N < W.heap.size; exact HW.out.1.lt)).trans hHeld.1, (bl2.cell (by show t < W.heap.size; exact (World.block_lt_of_cell? W _ ct))).trans hHeld.2.1, (bl2.cell (by show b0 < W.heap.size; exact hb0)).trans hHeld.2.2⟩
    clear hK K
    try simp only [Act.put, List.getElem_toArray, List.getElem_cons_zero, List.getElem_cons_succ, List.setIfInBounds_toArray, List.set_cons_zero, List.set_cons_succ]
    have hWv : Whole w2 bv 29 #[.pointer (some ⟨v', 0, none⟩)] := HW.out.2.drew.below bl2 hbvW
    have cv2 : w2.cell? ⟨bv, 0, none⟩ = some (.pointer (some ⟨v', 0, none⟩)) := by rw [hWv.cell]; rfl
    have fv2 : w2.frozen? ⟨bv, 0, none⟩ = false := hWv.free 0
    have hneT : bv ≠ t := by omega
    have hneB : bv ≠ b0 := by omega
    refine wpAnyH_ready (rs := [9]) (by kernel_rfl) (by simp) ?_
    refine AllReadyH.cons rfl (fun K hK => ?_) AllReadyH.nil
    go_simp
    refine hK.out _ _ ?_ (fun hHeld => ?_)
    · (try dsimp only); exact ⟨(World.cell?_setCell_far _ _ _ _ (by simp only; omega)).trans hHeld.1, (World.cell?_setCell_far _ _ _ _ hneT).trans hHeld.2.1, (World.cell?_setCell_far _ _ _ _ hneB).trans hHeld.2.2⟩
    clear hK K
    try simp only [Act.put, List.getElem_toArray, List.getElem_cons_zero, List.getElem_cons_succ, List.setIfInBounds_toArray, List.set_cons_zero, List.set_cons_succ]
    refine wpAnyH_done (by kernel_rfl) ?_ _
    have HF := Lib.hid (show StbI w N N bv t own (some ⟨b0, o0, none⟩) c Vs L (s + 1) (w2.setCell ⟨bv, 0, none⟩ (.pointer (some ⟨v2, 0, none⟩))) ∧ KeepsB W (w2.setCell ⟨bv, 0, none⟩ (.pointer (some ⟨v2, 0, none⟩))) from by
      obtain ⟨_, _, _, g0, g1, g2, g3, g4⟩ := HI.out
      have b3 : Below N w w2 := g4.drew.trans (below_of_le bl2 (hN ▸ g4.size))
      refine ⟨⟨by omega, v2, b2, ?_, ?_, ?_, TabIs.up HT.out (hN ▸ b3.setCell (by simp only; omega) _), b3.setCell (by simp only; omega) _⟩, ?_⟩
      · exact (g0.drew.below bl2 g0.lt).far (by simp only; omega) _
      · exact hWv.set_ 0 _
      · rw [e]
        exact hvec2.block (Below.heap_setCell _ _ _ _ (by simp only; have : W.heap.size ≤ v2 := hv2; omega)) (Below.heap_setCell _ _ _ _ (by simp only; have : W.heap.size ≤ b2 := hb2; omega))
      · exact (KeepsB.below (show Below W.heap.size W w2 from (Below.drew (Below.refl _ _)).trans bl2)).trans (KeepsB.set_ (p := ⟨bv, 0, none⟩) hWv _))
    gi_wp2
    exact ⟨HF.out.2, HF.out.1⟩
  case done =>
    rintro D s W hD rfl ⟨hl, v', b', h0, h1, h2, h3, h4⟩ hK
    have cv : W.cell? ⟨bv, 0, none⟩ = some (.pointer (some ⟨v', 0, none⟩)) := by rw [h1.cell]; rfl
    have CE' := Lib.hid (CE.out W _ _ h2.at_)
    have hDW : D < W.heap.size := (Array.getElem?_eq_some_iff.1 hK).1
    gi_wp2
    refine ⟨trivial, ?_⟩
    refine CE'.out.mono ?_; rintro e w2 ⟨A2, c2, rfl, o2, b2⟩
    have hK2 : w2.heap[D]? = some (.deferred (some [])) := (b2.block D hDW).trans hK
    gi_wp2
    refine ⟨by simp, .inl ⟨_, _, rfl, run_takeDeferred hK2, ?_⟩⟩
    refine ⟨_, results_tmp rfl _ _ _, A2, c2, rfl, ?_, ?_⟩
    · exact MsAt.own (o2.putBook hK2 rfl)
    · rw [hN]
      exact below_putBook (h4.trans (below_of_le b2 (hN ▸ h4.size))) (by omega)
  case stop =>
    rintro D W _ h _
    exact h.elim
/-- Of, whatever it answers. -/
theorem vcof_weak (w : World) (A : Option Addr) (c : Nat) (L : List Dt) (hr : MsAt w A L) (hn : L.length ≤ 9223372036854775807) :
    Calls Try.prog 74 #[.slice A L.length c] w fun e w' => (∃ p, e = .returned (.tuple #[.pointer p, .int .i64 (chkE L)])) ∧ Below w.heap.size w w' :=
  (vcof_any w A c L hr hn).mono fun e w' h => by
    unfold OfEnd at h
    split at h
    · rename_i hc
      obtain ⟨v, b, rfl, _, _, _, hb⟩ := h
      exact ⟨⟨_, by rw [hc]⟩, hb⟩
    · exact ⟨⟨_, h.1⟩, h.2⟩
theorem ptstable_no (w : World) (p : Option Addr) (Al : Option Addr) (cl : Nat) (L : List Dt) (hr : MsAt w Al L) (hn : L.length ≤ 9223372036854775807) (hp : p = none ∨ (chkE L ≠ 0 ∧ ∃ t, p = some ⟨t, 0, none⟩)) :
    Calls Try.prog 52 #[.pointer p, .slice Al L.length cl] w (SomeMs w []) := by
  have CF := Lib.hid (fun W (hr : MsAt W Al L) => (callsIn_wide (n := 8)).2 (vcof_weak W Al cl L hr hn))
  have HR := Lib.hid hr
  clear hr
  refine (callsIn_wide (n := 9)).1 ?_
  generalize hN : w.heap.size = N at *
  generalize hnl : L.length = nl at *
  generalize chkE L = r at *
  refine callsIn_of_wp_marks Try.func52 rfl trivial ?_ rfl
  simp only [Try.ntmps52, List.size_toArray, List.length_cons, List.length_nil, Nat.reduceAdd, Nat.reduceSub, Array.replicate_succ, Array.replicate_zero, List.push_toArray, List.append_toArray, List.nil_append, List.cons_append]
  have H0 := Lib.hid (show Whole (w.alloc (.cells #[.pointer p] 62)) N 62 #[.pointer p] ∧ Below N w (w.alloc (.cells #[.pointer p] 62)) from by
    refine ⟨?_, (Below.refl N w).alloc (by omega) _⟩
    have := Whole.new w 62 #[.pointer p]
    rw [hN] at this
    exact this)
  gi_wp2
  generalize (w.alloc (.cells #[.pointer p] 62)) = W0 at *
  refine ⟨trivial, ?_⟩
  refine (CF.out _ (HR.out.up (hN ▸ H0.out.2))).mono ?_; rintro e w1 ⟨⟨pv, rfl⟩, b1⟩
  have hz0 : N < W0.heap.size := H0.out.1.lt
  have cN1 : w1.cell? ⟨N, 0, none⟩ = some (.pointer p) := by rw [(H0.out.1.below b1 hz0).cell]; rfl
  have cN2 : (w1.alloc (.cells #[.pointer pv] 29)).cell? ⟨N, 0, none⟩ = some (.pointer p) := (World.cell?_alloc_some _ _ _ (by rw [cN1]; rfl)).trans cN1
  have b2 := Lib.hid (H0.out.2.trans (below_of_le b1 (by omega)))
  clear cN1 b1 H0 CF
  rcases hp with rfl | ⟨hc, t, rfl⟩
  · gi_wp2
    refine ⟨_, results_tmp rfl _ _ _, none, 0, rfl, MsAt.nil _, ?_⟩
    rw [hN]
    exact b2.out.alloc (hN ▸ b2.out.size) _
  · have hz' : (r != 0) = true := by simpa using hc
    gi_wp2
    refine ⟨_, results_tmp rfl _ _ _, none, 0, rfl, MsAt.nil _, ?_⟩
    rw [hN]
    exact b2.out.alloc (hN ▸ b2.out.size) _
theorem ptstable_any (w : World) (t : Nat) (own : Int) (A : Option Addr) (c : Nat) (Vs : List Vn) (h : TabIs w t own A c Vs) (Al : Option Addr) (cl : Nat) (L : List Dt) (hr : MsAt w Al L) (hn : L.length ≤ 9223372036854775807) :
    Calls Try.prog 52 #[.pointer (some ⟨t, 0, none⟩), .slice Al L.length cl] w (SomeMs w (stabL own (tabK Vs) L (chkE L))) := by
  by_cases hc : chkE L = 0
  · rw [show stabL own (tabK Vs) L (chkE L) = stabTo own (tabK Vs) L Vs.length by unfold stabL; rw [if_pos hc, tabK_len]]
    exact ptstable_yes w t own A c Vs h Al cl L hr hn hc
  · rw [show stabL own (tabK Vs) L (chkE L) = [] by unfold stabL; rw [if_neg hc]]
    exact ptstable_no w _ Al cl L hr hn (.inr ⟨hc, t, rfl⟩)
end Go.Proofs.Ytailbppddnegoaa
