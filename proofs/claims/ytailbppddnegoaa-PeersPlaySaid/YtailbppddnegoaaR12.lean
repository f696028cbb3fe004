/- Layer 36 (peers): the walk of the law PeersPlay. -/
import Derived.Test.YtailbppddnegoaaR11
import Derived.Test.YtailbppddnegoaaR9
import Derived.Test.YtailbppddnegoaaO2
namespace Go.Proofs.Ytailbppddnegoaa
open Go.RowKit Go.Shelf
set_option linter.unusedVariables false
set_option linter.unusedSimpArgs false
set_option maxRecDepth 100000
attribute [local go_sem ↓] Go.wp_at_zero Go.wp_at_succ

/-- Both tables, side by side. -/
structure PpI (w : World) (N t bw : Nat) (own : Int) (A : Option Addr) (c n : Nat) (bs : List Nat) (Vs : List Vn) (Ar : Option Addr) (cr : Nat) (Rs : List Rn) (W : World) : Prop where
  tab : TabIs W t own A c Vs
  box : Whole W bw 89 #[.int .i64 own, .slice Ar n cr]
  rt : RTab W Ar Rs
  rn : Rs.length = n
  k : rtK Rs = tabK Vs
  vl : Vs.length = n
  b : Vs.map (·.b) = bs
  at_ : Whole W N 86 #[.int .i64 (n : Int), .int .i64 own]
  bel : Below N w W
  nb : ∀ k, Reach Ar Rs k → k ≠ bw
section
variable {w : World} {N t bw : Nat} {own : Int} {A : Option Addr} {c n : Nat} {bs : List Nat} {Vs : List Vn} {Ar : Option Addr} {cr : Nat} {Rs : List Rn} {W W' : World}
theorem PpI.up (hN : w.heap.size = N) (h : PpI w N t bw own A c n bs Vs Ar cr Rs W) (b : Below W.heap.size W W') : PpI w N t bw own A c n bs Vs Ar cr Rs W' :=
  ⟨h.tab.up b, h.box.below b h.box.lt, h.rt.up b, h.rn, h.k, h.vl, h.b, h.at_.below b h.at_.lt, h.bel.trans (below_of_le b (hN ▸ h.bel.size)), h.nb⟩
theorem PpI.kv (h : PpI w N t bw own A c n bs Vs Ar cr Rs W) : KVw (rtK Rs) := by rw [h.k]; exact h.tab.vw
end
theorem TabIs.keepRd {w w' : World} {t c : Nat} {own : Int} {A A0 : Option Addr} {Vs : List Vn} {size n : Nat} {xs : List Value} (h : TabIs w t own A c Vs) (hS : Rd w w.heap.size size A0 n xs) (hc : Ch (fun k => k ∈ Vs.map (·.b)) w w') : Rd w' w'.heap.size size A0 n xs := by
  refine ⟨hS.1, fun hn => ?_⟩
  obtain ⟨b, o, hA, hb, hcell⟩ := hS.2 hn
  have hnot : ¬ b ∈ Vs.map (·.b) := fun hmem => by
    obtain ⟨y, hy, e⟩ := List.mem_map.1 hmem
    obtain ⟨u, hu⟩ : ∃ u, xs[0]? = some u := ⟨xs[0]'(by rw [hS.1]; exact hn), List.getElem?_eq_getElem _⟩
    exact (h.vec y hy).cell_ne (hcell 0 u hu) e.symm
  exact ⟨b, o, hA, Nat.lt_of_lt_of_le hb hc.size, fun j u hu => (World.cell?_of_block (hc.block b hb hnot)).trans (hcell j u hu)⟩
theorem TabIs.keepR {w w' : World} {t c : Nat} {own : Int} {A A0 : Option Addr} {Vs : List Vn} {Rs : List Rn} (h : TabIs w t own A c Vs) (hR : RTab w A0 Rs) (hc : Ch (fun k => k ∈ Vs.map (·.b)) w w') : RTab w' A0 Rs :=
  ⟨h.keepRd hR.rd hc, fun x hx => h.keepMs (hR.ms x hx) hc, fun x hx k hk => Nat.lt_of_lt_of_le (hR.lo x hx k hk) hc.size⟩
theorem TabIs.keepW {w w' : World} {t c g : Nat} {own : Int} {A : Option Addr} {Vs : List Vn} {ty : TypeId} {cs : Array Value} {u : Value} (h : TabIs w t own A c Vs) (hW : Whole w g ty cs) (h0 : cs[0]? = some u) (hc : Ch (fun k => k ∈ Vs.map (·.b)) w w') : Whole w' g ty cs :=
  hW.ch hc fun hmem => by
    obtain ⟨y, hy, e⟩ := List.mem_map.1 hmem
    exact (h.vec y hy).cell_ne (o := 0) (by rw [hW.cell]; exact h0) e.symm
theorem TabIs.chBox {w w' : World} {t c g m q : Nat} {own a : Int} {A B : Option Addr} {Vs : List Vn} (h : TabIs w t own A c Vs) (hW : Whole w g 89 #[.int .i64 a, .slice B m q]) (hc : Ch (fun k => k = g) w w') : TabIs w' t own A c Vs := by
  have hcell : ∀ o p, w.cell? ⟨g, o, none⟩ ≠ some (.pointer p) := fun o p e => by
    rw [hW.cell] at e
    match o with
    | 0 => cases e
    | 1 => cases e
    | o + 2 => simp at e
  refine ⟨h.blk.ch hc fun e => by subst e; exact h.blk.ne_ hW (by decide) rfl, ⟨h.rd.1, fun hn => ?_⟩, fun x hx => (h.vec x hx).ch hc (fun e => ?_) (fun e => ?_), h.nd, h.len, h.cap⟩
  · obtain ⟨b, o, hA, hb, hcl⟩ := h.rd.2 hn
    obtain ⟨x, hx⟩ : ∃ x, Vs[0]? = some x := ⟨Vs[0]'(by simpa using hn), List.getElem?_eq_getElem _⟩
    have h0 := hcl 0 _ (by rw [List.getElem?_map, hx]; rfl)
    have hne : b ≠ g := fun e => by subst e; exact hcell _ _ h0
    exact ⟨b, o, hA, Nat.lt_of_lt_of_le hb hc.size, fun j u hu => (World.cell?_of_block (hc.block b hb hne)).trans (hcl j u hu)⟩
  · subst e
    exact (h.vec x hx).1.ne_ hW (by decide) rfl
  · subst e
    exact (h.vec x hx).cell_ne (o := 0) (by rw [hW.cell]; rfl) rfl
set_option maxHeartbeats 8000000 in
theorem peersPlay_in (w : World) (n : Nat) (own : Int) (Al : Option Addr) (cl : Nat) (Ws : List Wd) (Am : Option Addr) (cm : Nat) (M : List Dt) (hn1 : 1 ≤ n) (hn64 : n ≤ 64) (ho0 : 0 ≤ own) (hon : own < (n : Int)) (hl : WsAt w Al Ws) (hm : MsAt w Am M) (hli : lightB Ws = true) (h100 : M.length ≤ 100) :
    Calls Try.prog 12 #[.agg #[.int .i64 (n : Int), .int .i64 own], .slice Al Ws.length cl, .slice Am M.length cm] w fun e w' => e = .returned (.bool true) ∧ Below w.heap.size w w' := by
  obtain ⟨h30, h50⟩ := lightB_iff.1 hli
  have C9 := Lib.hid awake36_any
  have CL := Lib.hid (fun W (h : WsAt W Al Ws) => light36_any W Al cl Ws h (by omega))
  rw [hli] at CL
  have CN := Lib.hid (fun W => ptnew_ok W n own hn1 hn64 ho0 hon)
  have CR := Lib.hid (fun W => rnew36_any W n own hn64)
  have HW := Lib.hid hl
  have HM := Lib.hid hm
  have H50 := Lib.hid h50
  have CS2 := Lib.hid (fun (W : World) (A A' : Option Addr) (c c' : Nat) (L : List Dt) (hr : MsAt W A L) (hr' : MsAt W A' L) (hn : L.length ≤ 9223372036854775807) => rsame17_any W W.heap.size W.heap.size A A' c c' L L hr hr' (Nat.le_refl _) (Nat.le_refl _) hn)
  simp only [decide_true] at CS2
  have B0 := below_alloc_book w (.cells #[.int .i64 (n : Int), .int .i64 own] 86)
  have H0 := Lib.hid (And.intro (Whole.new w 86 #[.int .i64 (n : Int), .int .i64 own]) (And.intro (hl.up B0) B0))
  clear hl hm hli h50 B0
  generalize hN : w.heap.size = N at *
  generalize hWn : Ws.length = wn at *
  have HWn := Lib.hid hWn
  have HMl := Lib.hid (show M.length ≤ 100 from h100)
  generalize hMn : M.length = mn at *
  have HMn := Lib.hid hMn
  clear hWn hMn
  have g1 : decide (100 < (mn : Int)) = false := by simp; omega
  have g2 : ((n : Int) < 1) = False := by simp; omega
  have g3 : (64 < (n : Int)) = False := by simp; omega
  have g4 : (own < 0) = False := by simp; omega
  have g5 : ((n : Int) ≤ own) = False := by simp; omega
  go_enter Try.func12, Try.ntmps12
  go_wp2_with fail
  generalize (w.alloc (.cells #[.int .i64 (n : Int), .int .i64 own] 86)) = W0 at *
  refine (CL.out _ H0.out.2.1).mono ?_; rintro e w1 ⟨rfl, b1⟩
  have hz0 : N < W0.heap.size := H0.out.1.lt
  have H1 := Lib.hid (And.intro (H0.out.1.below b1 hz0) (H0.out.2.2.trans (below_of_le b1 (by omega))))
  have k0 := H1.out.1.cell 0
  have k1 := H1.out.1.cell 1
  change _ = some (Value.int .i64 (n : Int)) at k0
  change _ = some (Value.int .i64 own) at k1
  have hz1 : N < w1.heap.size := H1.out.1.lt
  clear b1 H0 CL
  go_wp2_with fail
  refine (CN.out w1).mono ?_; rintro e w2 ⟨t, A, c, Vs0, rfl, ht, hT, hK, hlo, b2⟩
  have H2 := Lib.hid (And.intro hT (And.intro hK (And.intro (fun x hx => Nat.le_trans (Nat.le_of_lt hz1) (hlo x hx)) (And.intro (H1.out.1.below b2 hz1) (H1.out.2.trans (below_of_le b2 (by omega)))))))
  have hz2 : N < w2.heap.size := H2.out.2.2.2.1.lt
  have k0 := H2.out.2.2.2.1.cell 0
  have k1 := H2.out.2.2.2.1.cell 1
  change _ = some (Value.int .i64 (n : Int)) at k0
  change _ = some (Value.int .i64 own) at k1
  clear hT hK hlo b2 CN H1
  go_wp2_with fail
  refine (CR.out w2).mono ?_; rintro e w3 ⟨Ar, cr, Rs0, rfl, hRn, hR, hRK, b3⟩
  have H3 := Lib.hid (show PpI w N t w3.heap.size own A c n (Vs0.map (·.b)) Vs0 Ar cr Rs0 (w3.alloc (.cells #[.int .i64 own, .slice Ar n cr] 89)) from by
    have bb := below_alloc_book w3 (.cells #[.int .i64 own, .slice Ar n cr] 89)
    refine ⟨(H2.out.1.up b3).up bb, Whole.new _ _ _, hR.up bb, hRn, by rw [hRK, H2.out.2.1], by rw [← tabK_len, H2.out.2.1, List.length_replicate], rfl, (H2.out.2.2.2.1.below b3 hz2).alloc _, (H2.out.2.2.2.2.trans (below_of_le b3 (by omega))).trans (below_of_le bb (by have := b3.size; omega)), fun k hk => Nat.ne_of_lt ?_⟩
    rcases hk with hk | ⟨y, hy, hk⟩
    · obtain ⟨y, hy⟩ : ∃ y, Rs0[0]? = some y := ⟨Rs0[0]'(by omega), List.getElem?_eq_getElem _⟩
      obtain ⟨b, o, hA, hb, _⟩ := hR.at_ hy
      subst hA
      cases hk
      exact hb
    · exact hR.lo y hy k hk)
  have HB := Lib.hid (fun k (hk : k ∈ Vs0.map (·.b)) => (show N ≤ k by obtain ⟨x, hx, rfl⟩ := List.mem_map.1 hk; exact H2.out.2.2.1 x hx))
  have hbw : N < w3.heap.size := by have := b3.size; omega
  clear hRn hR hRK b3 CR H2 k0 k1
  go_wp2_with fail
  generalize hbs : Vs0.map (·.b) = bs at *
  generalize hbwe : w3.heap.size = bw at *
  generalize (w3.alloc (.cells #[.int .i64 own, .slice Ar n cr] 89)) = W3 at *
  go_loopw [10] (fun i wr => ∃ (j : Nat) (Vs : List Vn) (Ar : Option Addr) (cr : Nat) (Rs : List Rn), j ≤ wn ∧ i = .int .i64 j ∧ PpI w N t bw own A c n bs Vs Ar cr Rs wr) (fun i _ => wn - (intOf i).toNat)
  case atStart => exact ⟨0, Vs0, Ar, cr, Rs0, by omega, rfl, H3.out⟩
  case round =>
    obtain ⟨j, Vs, Ar', cr', Rs, hj, rfl, hI⟩ := hrel
    have HI := Lib.hid hI
    clear hI H3
    have hNr : N ≤ wr.heap.size := hN ▸ HI.out.bel.size
    have hbwr : bw < wr.heap.size := HI.out.box.lt
    by_cases hlt : j < wn
    · obtain ⟨x, hx⟩ : ∃ x, Ws[j]? = some x := ⟨Ws[j]'(by have := HWn.out; omega), List.getElem?_eq_getElem _⟩
      have hWr := HW.out.up (hN ▸ HI.out.bel : Below w.heap.size w wr)
      obtain ⟨b0, o0, hA, hb0, k0, k1⟩ := hWr.at_ hx
      have hbN : b0 < N := by
        obtain ⟨b1, o1, hA1, hlt1, _⟩ := HW.out.at_ hx
        rw [hA] at hA1
        cases hA1
        exact hN ▸ hlt1
      have hxl := H50.out x (List.mem_of_getElem? hx)
      have HX := Lib.hid (hWr.2 x (List.mem_of_getElem? hx)).at_
      have HXw := Lib.hid (HW.out.2 x (List.mem_of_getElem? hx)).at_
      obtain ⟨hv, hhv⟩ : ∃ hv, heardE own n x.dev (chkE x.L) = hv := ⟨_, rfl⟩
      have CH := Lib.hid (fun W (h : TabIs W t own A c Vs) (hr : MsAt W x.A x.L) => (ptheard_any W t own A c Vs x.dev x.A x.c x.L h hr (by omega)).mono (fun e w' h' => show ∃ Vs', e = .returned (.int .i64 hv) ∧ TabIs w' t own A c Vs' ∧ tabK Vs' = heardK own (tabK Vs) x.dev x.L (chkE x.L) ∧ Vs'.map (·.b) = Vs.map (·.b) ∧ Ch (fun k => k ∈ Vs.map (·.b)) W w' from by
        unfold HeardEnd at h'
        rw [HI.out.vl, hhv] at h'
        exact h'))
      have CH' := Lib.hid (fun W (h : RTab W Ar' Rs) (hr : MsAt W x.A x.L) => (rheard36_any W own Ar' cr' Rs n HI.out.rn h hn64 HI.out.kv x.dev x.A x.c x.L hr (by omega)).mono (fun e w' h' => show ∃ A c Rs', e = .returned (.tuple #[.agg #[.int .i64 own, .slice A n c], .int .i64 hv]) ∧ Rs'.length = n ∧ RTab w' A Rs' ∧ rtK Rs' = heardK own (rtK Rs) x.dev x.L (chkE x.L) ∧ Below W.heap.size W w' ∧ ∀ k, Reach A Rs' k → Reach Ar' Rs k ∨ W.heap.size ≤ k from by
        unfold RHeard at h'
        rw [hhv] at h'
        exact h'))
      have hvv : (hv != hv) = false := by simp
      clear hhv
      have t0 := HI.out.box.cell 0
      have t1 := HI.out.box.cell 1
      change _ = some (Value.int .i64 own) at t0
      change _ = some (Value.slice Ar' n cr') at t1
      clear hx hWr
      generalize hxn : x.L.length = xn at *
      clear hxn
      subst hA
      go_upto_region 10 with fail
      go_cut [11, 12] from 68 to 117 (fun p f wx => ∃ (bx : Nat) (Ar4 : Option Addr) (cr4 : Nat) (Rs4 : List Rn), p = .pointer (some ⟨bx, 0, none⟩) ∧ f = .int .i64 hv ∧ Whole wx bx 89 #[.int .i64 own, .slice Ar4 n cr4] ∧ wr.heap.size ≤ bx ∧ Rs4.length = n ∧ RTab wx Ar4 Rs4 ∧ rtK Rs4 = heardK own (rtK Rs) x.dev x.L (chkE x.L) ∧ Below wr.heap.size wr wx ∧ ∀ k, Reach Ar4 Rs4 k → Reach Ar' Rs k ∨ wr.heap.size ≤ k)
      case first =>
        refine wp_region_held_drew (S := (fun W => W.cell? ⟨b0, o0 + j * 2, none⟩ = some (.int .i64 x.dev) ∧ W.cell? ⟨b0, o0 + j * 2 + 1, none⟩ = some (.slice x.A xn x.c) ∧ W.cell? ⟨bw, 0, none⟩ = some (.int .i64 own) ∧ W.cell? ⟨bw, 1, none⟩ = some (.slice Ar' n cr'))) (by kernel_rfl) ?_ (fun hHeld => ?_)
        · (try dsimp only); exact ⟨k0, k1, t0, t1⟩
        refine wpAnyH_take (i := 0) (v := ?_) rfl (by kernel_rfl) (by kernel_rfl) (by kernel_rfl) (fun _ _ _ h => h) (Or.inl ⟨by rfl, ?_⟩) (by assumption) ?_
        rotate_left
        first | (focus ((intro w hSw; (try dsimp only at hSw); go_simp); (try with_reducible rfl); done)) | fail
        try simp only [Act.put, List.getElem_toArray, List.getElem_cons_zero, List.setIfInBounds_toArray, List.set_cons_zero, List.set_cons_succ]
        refine wpAnyH_take (i := 1) (v := ?_) rfl (by kernel_rfl) (by kernel_rfl) (by kernel_rfl) (fun _ _ _ h => h) (Or.inl ⟨by rfl, ?_⟩) (by assumption) ?_
        rotate_left
        first | (focus ((intro w hSw; (try dsimp only at hSw); go_simp); (try with_reducible rfl); done)) | fail
        try simp only [Act.put, List.getElem_toArray, List.getElem_cons_zero, List.getElem_cons_succ, List.setIfInBounds_toArray, List.set_cons_zero, List.set_cons_succ]
        refine wpAnyH_take (i := 2) (v := ?_) rfl (by kernel_rfl) (by kernel_rfl) (by kernel_rfl) (fun _ _ _ h => h) (Or.inl ⟨by rfl, ?_⟩) (by assumption) ?_
        rotate_left
        first | (focus ((intro w hSw; (try dsimp only at hSw); go_simp); (try with_reducible rfl); done)) | fail
        try simp only [Act.put, List.getElem_toArray, List.getElem_cons_zero, List.getElem_cons_succ, List.setIfInBounds_toArray, List.set_cons_zero, List.set_cons_succ]
        refine wpAnyH_take (i := 3) (v := ?_) rfl (by kernel_rfl) (by kernel_rfl) (by kernel_rfl) (fun _ _ _ h => h) (Or.inl ⟨by rfl, ?_⟩) (by assumption) ?_
        rotate_left
        first | (focus ((intro w hSw; (try dsimp only at hSw); go_simp); (try with_reducible rfl); done)) | fail
        try simp only [Act.put, List.getElem_toArray, List.getElem_cons_zero, List.getElem_cons_succ, List.setIfInBounds_toArray, List.set_cons_zero, List.set_cons_succ]
        refine wpAnyH_take (i := 4) (v := ?_) rfl (by kernel_rfl) (by kernel_rfl) (by kernel_rfl) (fun _ _ _ h => h) (Or.inl ⟨by rfl, ?_⟩) (by assumption) ?_
        rotate_left
        first | (focus ((intro w hSw; (try dsimp only at hSw); go_simp); (try with_reducible rfl); done)) | fail
        try simp only [Act.put, List.getElem_toArray, List.getElem_cons_zero, List.getElem_cons_succ, List.setIfInBounds_toArray, List.set_cons_zero, List.set_cons_succ]
        refine wpAnyH_take (i := 5) (v := ?_) rfl (by kernel_rfl) (by kernel_rfl) (by kernel_rfl) (fun _ _ _ h => h) (Or.inl ⟨by rfl, ?_⟩) (by assumption) ?_
        rotate_left
        first | (focus ((intro w hSw; (try dsimp only at hSw); go_simp); (try with_reducible rfl); done)) | fail
        try simp only [Act.put, List.getElem_toArray, List.getElem_cons_zero, List.getElem_cons_succ, List.setIfInBounds_toArray, List.set_cons_zero, List.set_cons_succ]
        refine wpAnyH_take (i := 6) (v := ?_) rfl (by kernel_rfl) (by kernel_rfl) (by kernel_rfl) (fun _ _ _ h => h) (Or.inl ⟨by rfl, ?_⟩) (by assumption) ?_
        rotate_left
        first | (focus ((intro w hSw; (try dsimp only at hSw); go_simp); (try with_reducible rfl); done)) | fail
        try simp only [Act.put, List.getElem_toArray, List.getElem_cons_zero, List.getElem_cons_succ, List.setIfInBounds_toArray, List.set_cons_zero, List.set_cons_succ]
        refine wpAnyH_take (i := 7) (v := ?_) rfl (by kernel_rfl) (by kernel_rfl) (by kernel_rfl) (fun _ _ _ h => h) (Or.inl ⟨by rfl, ?_⟩) (by assumption) ?_
        rotate_left
        first | (focus ((intro w hSw; (try dsimp only at hSw); go_simp); (try with_reducible rfl); done)) | fail
        try simp only [Act.put, List.getElem_toArray, List.getElem_cons_zero, List.getElem_cons_succ, List.setIfInBounds_toArray, List.set_cons_zero, List.set_cons_succ]
        refine wpAnyH_take (i := 8) (v := ?_) rfl (by kernel_rfl) (by kernel_rfl) (by kernel_rfl) (fun _ _ _ h => h) (Or.inl ⟨by rfl, ?_⟩) (by assumption) ?_
        rotate_left
        first | (focus ((intro w hSw; (try dsimp only at hSw); go_simp); (try with_reducible rfl); done)) | fail
        try simp only [Act.put, List.getElem_toArray, List.getElem_cons_zero, List.getElem_cons_succ, List.setIfInBounds_toArray, List.set_cons_zero, List.set_cons_succ]
        refine wpAnyH_take (i := 9) (v := ?_) rfl (by kernel_rfl) (by kernel_rfl) (by kernel_rfl) (fun _ _ _ h => h) (Or.inl ⟨by rfl, ?_⟩) (by assumption) ?_
        rotate_left
        first | (focus ((intro w hSw; (try dsimp only at hSw); go_simp); (try with_reducible rfl); done)) | fail
        try simp only [Act.put, List.getElem_toArray, List.getElem_cons_zero, List.getElem_cons_succ, List.setIfInBounds_toArray, List.set_cons_zero, List.set_cons_succ]
        refine wpAnyH_take (i := 10) (v := ?_) rfl (by kernel_rfl) (by kernel_rfl) (by kernel_rfl) (fun _ _ _ h => h) (Or.inl ⟨by rfl, ?_⟩) (by assumption) ?_
        rotate_left
        first | (focus ((intro w hSw; (try dsimp only at hSw); go_simp); (try with_reducible rfl); done)) | fail
        try simp only [Act.put, List.getElem_toArray, List.getElem_cons_zero, List.getElem_cons_succ, List.setIfInBounds_toArray, List.set_cons_zero, List.set_cons_succ]
        refine wpAnyH_ready (rs := [11, 15]) (by kernel_rfl) (by simp) ?_
        refine AllReadyH.cons rfl (fun K hK => ?_) (AllReadyH.cons rfl (fun K hK => ?_) AllReadyH.nil)
        · skip
          go_simp
          refine (CH'.out _ (HI.out.rt.up (Below.drew (Below.refl _ _))) (HX.out.up (Below.drew (Below.refl _ _)))).mono ?_; rintro e w4 ⟨Ar4, cr4, Rs4, rfl, hRn4, hR4, hRK4, b4, hre4⟩
          go_wp2_with fail
          refine hK.out _ _ ?_ (fun hHeld => ?_)
          · (try dsimp only); exact ⟨(b4.cell (by simp only [World.size_alloc, World.size_drew]; omega)).trans hHeld.1, (b4.cell (by simp only [World.size_alloc, World.size_drew]; omega)).trans hHeld.2.1, (b4.cell (by simp only [World.size_alloc, World.size_drew]; omega)).trans hHeld.2.2.1, (b4.cell (by simp only [World.size_alloc, World.size_drew]; omega)).trans hHeld.2.2.2⟩
          clear hK K
          try simp only [Act.put, List.getElem_toArray, List.getElem_cons_zero, List.getElem_cons_succ, List.setIfInBounds_toArray, List.set_cons_zero, List.set_cons_succ]
          have hH4 := hHeld
          refine wpAnyH_take (i := 12) (v := ?_) rfl (by kernel_rfl) (by kernel_rfl) (by kernel_rfl) (fun _ _ _ h => h) (Or.inl ⟨by rfl, ?_⟩) (by assumption) ?_
          rotate_left
          first | (focus ((intro w hSw; (try dsimp only at hSw); go_simp); (try with_reducible rfl); done)) | fail
          try simp only [Act.put, List.getElem_toArray, List.getElem_cons_zero, List.getElem_cons_succ, List.setIfInBounds_toArray, List.set_cons_zero, List.set_cons_succ]
          refine wpAnyH_take (i := 13) (v := ?_) rfl (by kernel_rfl) (by kernel_rfl) (by kernel_rfl) (fun _ _ _ h => h) (Or.inl ⟨by rfl, ?_⟩) (by assumption) ?_
          rotate_left
          first | (focus ((intro w hSw; (try dsimp only at hSw); go_simp); (try with_reducible rfl); done)) | fail
          try simp only [Act.put, List.getElem_toArray, List.getElem_cons_zero, List.getElem_cons_succ, List.setIfInBounds_toArray, List.set_cons_zero, List.set_cons_succ]
          refine wpAnyH_take (i := 14) (v := ?_) rfl (by kernel_rfl) (by kernel_rfl) (by kernel_rfl) (fun _ _ _ h => h) (Or.inl ⟨by rfl, ?_⟩) (by assumption) ?_
          rotate_left
          first | (focus ((intro w hSw; (try dsimp only at hSw); go_simp); (try with_reducible rfl); done)) | fail
          try simp only [Act.put, List.getElem_toArray, List.getElem_cons_zero, List.getElem_cons_succ, List.setIfInBounds_toArray, List.set_cons_zero, List.set_cons_succ]
          refine wpAnyH_ready (rs := [15]) (by kernel_rfl) (by simp) ?_
          refine AllReadyH.cons rfl (fun K hK => ?_) AllReadyH.nil
          go_simp
          refine hK.out _ _ ?_ (fun hHeld => ?_)
          · (try dsimp only); exact ⟨(World.cell?_alloc_some _ _ _ (Option.isSome_iff_exists.2 ⟨_, hH4.1⟩)).trans hH4.1, (World.cell?_alloc_some _ _ _ (Option.isSome_iff_exists.2 ⟨_, hH4.2.1⟩)).trans hH4.2.1, (World.cell?_alloc_some _ _ _ (Option.isSome_iff_exists.2 ⟨_, hH4.2.2.1⟩)).trans hH4.2.2.1, (World.cell?_alloc_some _ _ _ (Option.isSome_iff_exists.2 ⟨_, hH4.2.2.2⟩)).trans hH4.2.2.2⟩
          clear hK K
          try simp only [Act.put, List.getElem_toArray, List.getElem_cons_zero, List.getElem_cons_succ, List.setIfInBounds_toArray, List.set_cons_zero, List.set_cons_succ]
          refine wpAnyH_ready (rs := [16]) (by kernel_rfl) (by simp) ?_
          refine AllReadyH.cons rfl (fun K hK => ?_) AllReadyH.nil
          go_simp
          refine hK.out _ _ ?_ (fun hHeld => ?_)
          · (try dsimp only); exact ⟨(World.cell?_alloc_some _ _ _ (Option.isSome_iff_exists.2 ⟨_, hH4.1⟩)).trans hH4.1, (World.cell?_alloc_some _ _ _ (Option.isSome_iff_exists.2 ⟨_, hH4.2.1⟩)).trans hH4.2.1, (World.cell?_alloc_some _ _ _ (Option.isSome_iff_exists.2 ⟨_, hH4.2.2.1⟩)).trans hH4.2.2.1, (World.cell?_alloc_some _ _ _ (Option.isSome_iff_exists.2 ⟨_, hH4.2.2.2⟩)).trans hH4.2.2.2⟩
          clear hK K
          try simp only [Act.put, List.getElem_toArray, List.getElem_cons_zero, List.getElem_cons_succ, List.setIfInBounds_toArray, List.set_cons_zero, List.set_cons_succ]
          refine wpAnyH_take (i := 17) (v := ?_) rfl (by kernel_rfl) (by kernel_rfl) (by kernel_rfl) (fun _ _ _ h => h) (Or.inl ⟨by rfl, ?_⟩) (by assumption) ?_
          rotate_left
          first | (focus ((intro w hSw; (try dsimp only at hSw); go_simp); (try with_reducible rfl); done)) | fail
          try simp only [Act.put, List.getElem_toArray, List.getElem_cons_zero, List.getElem_cons_succ, List.setIfInBounds_toArray, List.set_cons_zero, List.set_cons_succ]
          refine wpAnyH_done (by kernel_rfl) ?_ _
          go_wp2
          go_meet
          case rel =>
            have b4' : Below wr.heap.size wr w4 := (Below.drew (Below.refl _ _)).trans b4
            exact ⟨w4.heap.size, Ar4, cr4, Rs4, rfl, rfl, Whole.new _ _ _, b4'.size, hRn4, hR4.up (below_alloc_book _ _), hRK4, b4'.alloc b4'.size _, hre4⟩
        · skip
          go_simp
          refine hK.out _ _ ?_ (fun hHeld => ?_)
          · (try dsimp only); exact ⟨(World.cell?_alloc_some _ _ _ (Option.isSome_iff_exists.2 ⟨_, hHeld.1⟩)).trans hHeld.1, (World.cell?_alloc_some _ _ _ (Option.isSome_iff_exists.2 ⟨_, hHeld.2.1⟩)).trans hHeld.2.1, (World.cell?_alloc_some _ _ _ (Option.isSome_iff_exists.2 ⟨_, hHeld.2.2.1⟩)).trans hHeld.2.2.1, (World.cell?_alloc_some _ _ _ (Option.isSome_iff_exists.2 ⟨_, hHeld.2.2.2⟩)).trans hHeld.2.2.2⟩
          clear hK K
          try simp only [Act.put, List.getElem_toArray, List.getElem_cons_zero, List.getElem_cons_succ, List.setIfInBounds_toArray, List.set_cons_zero, List.set_cons_succ]
          refine wpAnyH_ready (rs := [11]) (by kernel_rfl) (by simp) ?_
          refine AllReadyH.cons rfl (fun K hK => ?_) AllReadyH.nil
          go_simp
          refine (CH'.out _ (HI.out.rt.up ((Below.drew (Below.refl _ _)).alloc (by simp) _)) (HX.out.up ((Below.drew (Below.refl _ _)).alloc (by simp) _))).mono ?_; rintro e w4 ⟨Ar4, cr4, Rs4, rfl, hRn4, hR4, hRK4, b4, hre4⟩
          go_wp2_with fail
          refine hK.out _ _ ?_ (fun hHeld => ?_)
          · (try dsimp only); exact ⟨(b4.cell (by simp only [World.size_alloc, World.size_drew]; omega)).trans hHeld.1, (b4.cell (by simp only [World.size_alloc, World.size_drew]; omega)).trans hHeld.2.1, (b4.cell (by simp only [World.size_alloc, World.size_drew]; omega)).trans hHeld.2.2.1, (b4.cell (by simp only [World.size_alloc, World.size_drew]; omega)).trans hHeld.2.2.2⟩
          clear hK K
          try simp only [Act.put, List.getElem_toArray, List.getElem_cons_zero, List.getElem_cons_succ, List.setIfInBounds_toArray, List.set_cons_zero, List.set_cons_succ]
          refine wpAnyH_take (i := 12) (v := ?_) rfl (by kernel_rfl) (by kernel_rfl) (by kernel_rfl) (fun _ _ _ h => h) (Or.inl ⟨by rfl, ?_⟩) (by assumption) ?_
          rotate_left
          first | (focus ((intro w hSw; (try dsimp only at hSw); go_simp); (try with_reducible rfl); done)) | fail
          try simp only [Act.put, List.getElem_toArray, List.getElem_cons_zero, List.getElem_cons_succ, List.setIfInBounds_toArray, List.set_cons_zero, List.set_cons_succ]
          refine wpAnyH_take (i := 13) (v := ?_) rfl (by kernel_rfl) (by kernel_rfl) (by kernel_rfl) (fun _ _ _ h => h) (Or.inl ⟨by rfl, ?_⟩) (by assumption) ?_
          rotate_left
          first | (focus ((intro w hSw; (try dsimp only at hSw); go_simp); (try with_reducible rfl); done)) | fail
          try simp only [Act.put, List.getElem_toArray, List.getElem_cons_zero, List.getElem_cons_succ, List.setIfInBounds_toArray, List.set_cons_zero, List.set_cons_succ]
          refine wpAnyH_take (i := 14) (v := ?_) rfl (by kernel_rfl) (by kernel_rfl) (by kernel_rfl) (fun _ _ _ h => h) (Or.inl ⟨by rfl, ?_⟩) (by assumption) ?_
          rotate_left
          first | (focus ((intro w hSw; (try dsimp only at hSw); go_simp); (try with_reducible rfl); done)) | fail
          try simp only [Act.put, List.getElem_toArray, List.getElem_cons_zero, List.getElem_cons_succ, List.setIfInBounds_toArray, List.set_cons_zero, List.set_cons_succ]
          have hBx : Whole w4 wr.heap.size 89 #[.int .i64 0, .slice none 0 0] := (Whole.new wr.drew 89 #[.int .i64 0, .slice none 0 0]).below b4 (by simp)
          have y0 := hBx.cell 0
          have y1 := hBx.cell 1
          change _ = some (Value.int .i64 0) at y0
          change _ = some (Value.slice none 0 0) at y1
          have y2 := hBx.free 0
          have y3 := hBx.free 1
          have hne : ∀ k, k < wr.heap.size → wr.heap.size ≠ k := fun k hk => by omega
          refine wpAnyH_ready (rs := [16]) (by kernel_rfl) (by simp) ?_
          refine AllReadyH.cons rfl (fun K hK => ?_) AllReadyH.nil
          go_simp
          refine hK.out _ _ ?_ (fun hHeld => ?_)
          · (try dsimp only); exact ⟨((World.cell?_setCell_far _ _ _ _ (hne b0 (by omega))).trans (World.cell?_setCell_far _ _ _ _ (hne b0 (by omega)))).trans hHeld.1, ((World.cell?_setCell_far _ _ _ _ (hne b0 (by omega))).trans (World.cell?_setCell_far _ _ _ _ (hne b0 (by omega)))).trans hHeld.2.1, ((World.cell?_setCell_far _ _ _ _ (hne bw hbwr)).trans (World.cell?_setCell_far _ _ _ _ (hne bw hbwr))).trans hHeld.2.2.1, ((World.cell?_setCell_far _ _ _ _ (hne bw hbwr)).trans (World.cell?_setCell_far _ _ _ _ (hne bw hbwr))).trans hHeld.2.2.2⟩
          clear hK K
          try simp only [Act.put, List.getElem_toArray, List.getElem_cons_zero, List.getElem_cons_succ, List.setIfInBounds_toArray, List.set_cons_zero, List.set_cons_succ]
          refine wpAnyH_take (i := 17) (v := ?_) rfl (by kernel_rfl) (by kernel_rfl) (by kernel_rfl) (fun _ _ _ h => h) (Or.inl ⟨by rfl, ?_⟩) (by assumption) ?_
          rotate_left
          first | (focus ((intro w hSw; (try dsimp only at hSw); go_simp); (try with_reducible rfl); done)) | fail
          try simp only [Act.put, List.getElem_toArray, List.getElem_cons_zero, List.getElem_cons_succ, List.setIfInBounds_toArray, List.set_cons_zero, List.set_cons_succ]
          refine wpAnyH_done (by kernel_rfl) ?_ _
          go_wp2
          go_meet
          case rel =>
            have b4' : Below wr.heap.size wr w4 := ((Below.drew (Below.refl _ _)).alloc (by simp) _).trans (below_of_le b4 (by simp))
            have bs' := (b4'.setCell (p := ⟨wr.heap.size, 0, none⟩) (Nat.le_refl _) (.int .i64 own)).setCell (p := ⟨wr.heap.size, 1, none⟩) (Nat.le_refl _) (.slice Ar4 n cr4)
            refine ⟨wr.heap.size, Ar4, cr4, Rs4, rfl, rfl, (hBx.set_ 0 _).set_ 1 _, Nat.le_refl _, hRn4, ?_, hRK4, bs', fun k hk => (hre4 k hk).imp id (fun h => by simp at h; omega)⟩
            have hch : Ch (fun k => k = wr.heap.size) w4 ((w4.setCell ⟨wr.heap.size, 0, none⟩ (.int .i64 own)).setCell ⟨wr.heap.size, 1, none⟩ (.slice Ar4 n cr4)) := (Ch.set_ w4 ⟨wr.heap.size, 0, none⟩ _).trans (Ch.set_ _ ⟨wr.heap.size, 1, none⟩ _) (fun k _ h => h)
            have hA0 : ∀ k, Reach Ar' Rs k → k < wr.heap.size := fun k hk => by
              rcases hk with hk | ⟨y, hy, hk⟩
              · obtain ⟨y, hy⟩ : ∃ y, Rs[0]? = some y := ⟨Rs[0]'(by have := HI.out.rn; omega), List.getElem?_eq_getElem _⟩
                obtain ⟨b, o, hA, hb, _⟩ := HI.out.rt.at_ hy
                subst hA
                cases hk
                exact hb
              · exact HI.out.rt.lo y hy k hk
            have hne : ∀ k, Reach Ar4 Rs4 k → k ≠ wr.heap.size := fun k hk => by
              rcases hre4 k hk with h | h
              · have := hA0 k h; omega
              · simp at h; omega
            refine ⟨(Rd.ch hR4.rd (Nat.le_refl _) hch fun k _ hk => hne k (.inl hk)).more hch.size, fun y hy => (hR4.ms y hy).ch hch fun k hk => hne k (.inr ⟨y, hy, hk⟩), fun y hy k hk => Nat.lt_of_lt_of_le (hR4.lo y hy k hk) hch.size⟩
      case rest =>
        rename_i wc
        obtain ⟨bx, Ar4, cr4, Rs4, rfl, rfl, hbx, hbxl, hRn4, hR4, hRK4, bc, hre4⟩ := hcut
        have x0 := hbx.cell 0
        have x1 := hbx.cell 1
        change _ = some (Value.int .i64 own) at x0
        change _ = some (Value.slice Ar4 n cr4) at x1
        have hboxc := HI.out.box.below bc hbwr
        have y0 := hboxc.cell 0
        have y1 := hboxc.cell 1
        change _ = some (Value.int .i64 own) at y0
        change _ = some (Value.slice Ar' n cr') at y1
        have y2 := hboxc.free 0
        have y3 := hboxc.free 1
        obtain ⟨W5, hW5⟩ : ∃ W5, ((wc.setCell ⟨bw, 0, none⟩ (.int .i64 own)).setCell ⟨bw, 1, none⟩ (.slice Ar4 n cr4)) = W5 := ⟨_, rfl⟩
        have hch5 : Ch (fun k => k = bw) wc W5 := hW5 ▸ (Ch.set_ wc ⟨bw, 0, none⟩ _).trans (Ch.set_ _ ⟨bw, 1, none⟩ _) (fun k _ h => h)
        have hbel5 : Below N w W5 := (HI.out.bel.trans (below_of_le bc (by omega))).trans (hch5.below (fun k hk e => by omega) (by have := bc.size; omega))
        have H5 := Lib.hid (show TabIs W5 t own A c Vs ∧ Whole W5 bw 89 #[.int .i64 own, .slice Ar4 n cr4] ∧ RTab W5 Ar4 Rs4 ∧ Whole W5 N 86 #[.int .i64 (n : Int), .int .i64 own] ∧ Below N w W5 ∧ (∀ k, Reach Ar4 Rs4 k → k ≠ bw) ∧ wr.heap.size ≤ W5.heap.size from by
          have hnb : ∀ k, Reach Ar4 Rs4 k → k ≠ bw := fun k hk => by
            rcases hre4 k hk with h | h
            · exact HI.out.nb k h
            · omega
          refine ⟨(HI.out.tab.up bc).chBox hboxc hch5, hW5 ▸ (hboxc.set_ 0 _).set_ 1 _, ⟨(Rd.ch hR4.rd (Nat.le_refl _) hch5 fun k _ hk => hnb k (.inl hk)).more hch5.size, fun y hy => (hR4.ms y hy).ch hch5 fun k hk => hnb k (.inr ⟨y, hy, hk⟩), fun y hy k hk => Nat.lt_of_lt_of_le (hR4.lo y hy k hk) hch5.size⟩, (HI.out.at_.below bc (by omega)).ch hch5 (by omega), hbel5, hnb, ?_⟩
          have := bc.size
          have := hch5.size
          omega)
        have HRR := Lib.hid (And.intro hRn4 hRK4)
        have bN5 : Below N wr W5 := (below_of_le bc hNr).trans (hch5.below (fun k hk e => by omega) (by have := bc.size; omega))
        have kk0 : W5.cell? ⟨b0, o0 + j * 2, none⟩ = some (.int .i64 x.dev) := (bN5.cell (by simp only; omega)).trans k0
        have kk1 : W5.cell? ⟨b0, o0 + j * 2 + 1, none⟩ = some (.slice x.A xn x.c) := (bN5.cell (by simp only; omega)).trans k1
        have HX5 := Lib.hid (show MsAt W5 x.A x.L from HXw.out.up (hN ▸ hbel5))
        have HK0 := Lib.hid (And.intro HI.out.k HI.out.vl)
        have HBs := Lib.hid HI.out.b
        clear hbx hR4 hboxc hch5 hbel5 bc bN5 hre4 hRn4 hRK4 k0 k1 HI t0 t1 CH'
        go_upto_region 12 with fail
        clear hW5 y0 y1 y2 y3 x0 x1
        refine wp_region_held_drew (S := (fun W => W.cell? ⟨b0, o0 + j * 2, none⟩ = some (.int .i64 x.dev) ∧ W.cell? ⟨b0, o0 + j * 2 + 1, none⟩ = some (.slice x.A xn x.c))) (by kernel_rfl) ?_ (fun hHeld => ?_)
        · (try dsimp only); exact ⟨kk0, kk1⟩
        refine wpAnyH_take (i := 0) (v := ?_) rfl (by kernel_rfl) (by kernel_rfl) (by kernel_rfl) (fun _ _ _ h => h) (Or.inl ⟨by rfl, ?_⟩) (by assumption) ?_
        rotate_left
        first | (focus ((intro w hSw; (try dsimp only at hSw); go_simp); (try with_reducible rfl); done)) | fail
        try simp only [Act.put, List.getElem_toArray, List.getElem_cons_zero, List.setIfInBounds_toArray, List.set_cons_zero, List.set_cons_succ]
        refine wpAnyH_take (i := 1) (v := ?_) rfl (by kernel_rfl) (by kernel_rfl) (by kernel_rfl) (fun _ _ _ h => h) (Or.inl ⟨by rfl, ?_⟩) (by assumption) ?_
        rotate_left
        first | (focus ((intro w hSw; (try dsimp only at hSw); go_simp); (try with_reducible rfl); done)) | fail
        try simp only [Act.put, List.getElem_toArray, List.getElem_cons_zero, List.getElem_cons_succ, List.setIfInBounds_toArray, List.set_cons_zero, List.set_cons_succ]
        refine wpAnyH_take (i := 2) (v := ?_) rfl (by kernel_rfl) (by kernel_rfl) (by kernel_rfl) (fun _ _ _ h => h) (Or.inl ⟨by rfl, ?_⟩) (by assumption) ?_
        rotate_left
        first | (focus ((intro w hSw; (try dsimp only at hSw); go_simp); (try with_reducible rfl); done)) | fail
        try simp only [Act.put, List.getElem_toArray, List.getElem_cons_zero, List.getElem_cons_succ, List.setIfInBounds_toArray, List.set_cons_zero, List.set_cons_succ]
        refine wpAnyH_take (i := 3) (v := ?_) rfl (by kernel_rfl) (by kernel_rfl) (by kernel_rfl) (fun _ _ _ h => h) (Or.inl ⟨by rfl, ?_⟩) (by assumption) ?_
        rotate_left
        first | (focus ((intro w hSw; (try dsimp only at hSw); go_simp); (try with_reducible rfl); done)) | fail
        try simp only [Act.put, List.getElem_toArray, List.getElem_cons_zero, List.getElem_cons_succ, List.setIfInBounds_toArray, List.set_cons_zero, List.set_cons_succ]
        refine wpAnyH_take (i := 4) (v := ?_) rfl (by kernel_rfl) (by kernel_rfl) (by kernel_rfl) (fun _ _ _ h => h) (Or.inl ⟨by rfl, ?_⟩) (by assumption) ?_
        rotate_left
        first | (focus ((intro w hSw; (try dsimp only at hSw); go_simp); (try with_reducible rfl); done)) | fail
        try simp only [Act.put, List.getElem_toArray, List.getElem_cons_zero, List.getElem_cons_succ, List.setIfInBounds_toArray, List.set_cons_zero, List.set_cons_succ]
        refine wpAnyH_take (i := 5) (v := ?_) rfl (by kernel_rfl) (by kernel_rfl) (by kernel_rfl) (fun _ _ _ h => h) (Or.inl ⟨by rfl, ?_⟩) (by assumption) ?_
        rotate_left
        first | (focus ((intro w hSw; (try dsimp only at hSw); go_simp); (try with_reducible rfl); done)) | fail
        try simp only [Act.put, List.getElem_toArray, List.getElem_cons_zero, List.getElem_cons_succ, List.setIfInBounds_toArray, List.set_cons_zero, List.set_cons_succ]
        refine wpAnyH_take (i := 6) (v := ?_) rfl (by kernel_rfl) (by kernel_rfl) (by kernel_rfl) (fun _ _ _ h => h) (Or.inl ⟨by rfl, ?_⟩) (by assumption) ?_
        rotate_left
        first | (focus ((intro w hSw; (try dsimp only at hSw); go_simp); (try with_reducible rfl); done)) | fail
        try simp only [Act.put, List.getElem_toArray, List.getElem_cons_zero, List.getElem_cons_succ, List.setIfInBounds_toArray, List.set_cons_zero, List.set_cons_succ]
        refine wpAnyH_take (i := 7) (v := ?_) rfl (by kernel_rfl) (by kernel_rfl) (by kernel_rfl) (fun _ _ _ h => h) (Or.inl ⟨by rfl, ?_⟩) (by assumption) ?_
        rotate_left
        first | (focus ((intro w hSw; (try dsimp only at hSw); go_simp); (try with_reducible rfl); done)) | fail
        try simp only [Act.put, List.getElem_toArray, List.getElem_cons_zero, List.getElem_cons_succ, List.setIfInBounds_toArray, List.set_cons_zero, List.set_cons_succ]
        refine wpAnyH_take (i := 8) (v := ?_) rfl (by kernel_rfl) (by kernel_rfl) (by kernel_rfl) (fun _ _ _ h => h) (Or.inl ⟨by rfl, ?_⟩) (by assumption) ?_
        rotate_left
        first | (focus ((intro w hSw; (try dsimp only at hSw); go_simp); (try with_reducible rfl); done)) | fail
        try simp only [Act.put, List.getElem_toArray, List.getElem_cons_zero, List.getElem_cons_succ, List.setIfInBounds_toArray, List.set_cons_zero, List.set_cons_succ]
        refine wpAnyH_take (i := 9) (v := ?_) rfl (by kernel_rfl) (by kernel_rfl) (by kernel_rfl) (fun _ _ _ h => h) (Or.inl ⟨by rfl, ?_⟩) (by assumption) ?_
        rotate_left
        first | (focus ((intro w hSw; (try dsimp only at hSw); go_simp); (try with_reducible rfl); done)) | fail
        try simp only [Act.put, List.getElem_toArray, List.getElem_cons_zero, List.getElem_cons_succ, List.setIfInBounds_toArray, List.set_cons_zero, List.set_cons_succ]
        refine wpAnyH_take (i := 10) (v := ?_) rfl (by kernel_rfl) (by kernel_rfl) (by kernel_rfl) (fun _ _ _ h => h) (Or.inl ⟨by rfl, ?_⟩) (by assumption) ?_
        rotate_left
        first | (focus ((intro w hSw; (try dsimp only at hSw); go_simp); (try with_reducible rfl); done)) | fail
        try simp only [Act.put, List.getElem_toArray, List.getElem_cons_zero, List.getElem_cons_succ, List.setIfInBounds_toArray, List.set_cons_zero, List.set_cons_succ]
        refine wpAnyH_take (i := 12) (v := ?_) rfl (by kernel_rfl) (by kernel_rfl) (by kernel_rfl) (fun _ _ _ h => h) (Or.inl ⟨by rfl, ?_⟩) (by assumption) ?_
        rotate_left
        first | (focus ((intro w hSw; (try dsimp only at hSw); go_simp); (try with_reducible rfl); done)) | fail
        try simp only [Act.put, List.getElem_toArray, List.getElem_cons_zero, List.getElem_cons_succ, List.setIfInBounds_toArray, List.set_cons_zero, List.set_cons_succ]
        refine wpAnyH_ready (rs := [11]) (by kernel_rfl) (by simp) ?_
        refine AllReadyH.cons rfl (fun K hK => ?_) AllReadyH.nil
        go_simp
        refine (CH.out _ H5.out.1.drew HX5.out.drew).mono ?_; rintro e w6 ⟨Vs', rfl, hT6, hK6, hb6, ch6⟩
        go_wp2_with fail
        refine hK.out _ _ ?_ (fun hHeld => ?_)
        · (try dsimp only); exact ⟨((ch6.below (B := N) (fun k hk h => by have := HB.out k (HBs.out ▸ h); omega) (by have := H5.out.2.2.2.2.2.2; show N ≤ W5.heap.size; omega)).cell (by show b0 < N; exact hbN)).trans hHeld.1, ((ch6.below (B := N) (fun k hk h => by have := HB.out k (HBs.out ▸ h); omega) (by have := H5.out.2.2.2.2.2.2; show N ≤ W5.heap.size; omega)).cell (by show b0 < N; exact hbN)).trans hHeld.2⟩
        clear hK K
        try simp only [Act.put, List.getElem_toArray, List.getElem_cons_zero, List.getElem_cons_succ, List.setIfInBounds_toArray, List.set_cons_zero, List.set_cons_succ]
        refine wpAnyH_take (i := 13) (v := ?_) rfl (by kernel_rfl) (by kernel_rfl) (by kernel_rfl) (fun _ _ _ h => h) (Or.inl ⟨by rfl, ?_⟩) (by assumption) ?_
        rotate_left
        first | (focus ((intro w hSw; (try dsimp only at hSw); go_simp); (try with_reducible rfl); done)) | fail
        try simp only [Act.put, List.getElem_toArray, List.getElem_cons_zero, List.getElem_cons_succ, List.setIfInBounds_toArray, List.set_cons_zero, List.set_cons_succ]
        refine wpAnyH_done (by kernel_rfl) ?_ _
        have hN5 : N ≤ W5.heap.size := by have := H5.out.2.2.2.2.2.2; omega
        have H6 := Lib.hid (show PpI w N t bw own A c n bs Vs' Ar4 cr4 Rs4 w6 from by
          have hd : Below W5.heap.size W5 W5.drew := Below.drew (Below.refl _ _)
          have hkk : rtK Rs4 = tabK Vs' := by rw [HRR.out.2, hK6, HK0.out.1]
          refine ⟨hT6, H5.out.1.drew.keepW (H5.out.2.1.drew) rfl ch6, H5.out.1.drew.keepR (H5.out.2.2.1.up hd) ch6, HRR.out.1, hkk, ?_, by rw [hb6]; exact HBs.out, H5.out.1.drew.keepW (H5.out.2.2.2.1.drew) rfl ch6, ?_, H5.out.2.2.2.2.2.1⟩
          · rw [← tabK_len, ← hkk, rtK_len]
            exact HRR.out.1
          · exact H5.out.2.2.2.2.1.drew.trans (ch6.below (fun k hk h => by have := HB.out k (HBs.out ▸ h); omega) hN5))
        clear hT6 hK6 hb6 ch6 hHeld kk0 kk1 H5
        have CKa := Lib.hid (fun W (h : PpI w N t bw own A c n bs Vs' Ar4 cr4 Rs4 W) d => ptknown_any W t own A c Vs' d h.tab)
        have CKb := Lib.hid (fun W (h : PpI w N t bw own A c n bs Vs' Ar4 cr4 Rs4 W) d => rknown36_any W own Ar4 cr4 Rs4 n h.rn h.rt d)
        have hkl : ∀ d : Int, (knownL own (tabK Vs') d).length ≤ 67108928 := fun d => by
          unfold knownL
          split
          · exact (H6.out.tab.vw.get _).len
          · simp
        rw [H6.out.k] at CKb
        have HKL := Lib.hid hkl
        clear hkl
        go_wp2_with fail
        go_loopw [13] (fun y wi => ∃ d : Nat, d ≤ n + 2 ∧ y = .int .i64 ((d : Int) - 1) ∧ PpI w N t bw own A c n bs Vs' Ar4 cr4 Rs4 wi) (fun y _ => n + 2 - (intOf y + 1).toNat)
        case atStart => exact ⟨0, by omega, rfl, H6.out⟩
        case round =>
          obtain ⟨d, hd, rfl, hP⟩ := hrel
          have HP := Lib.hid hP
          clear hP H6
          have q0 := HP.out.at_.cell 0
          change _ = some (Value.int .i64 (n : Int)) at q0
          have t0 := HP.out.box.cell 0
          have t1 := HP.out.box.cell 1
          change _ = some (Value.int .i64 own) at t0
          change _ = some (Value.slice Ar4 n cr4) at t1
          have hbwi : bw < wr.heap.size := HP.out.box.lt
          by_cases hdn : d < n + 2
          · have hle : ((d : Int) - 1 ≤ (n : Int)) := by omega
            obtain ⟨dd, hdd⟩ : ∃ dd : Int, (d : Int) - 1 = dd := ⟨_, rfl⟩
            have HDD := Lib.hid hdd
            rw [hdd] at hle ⊢
            have hd1 : -1 ≤ dd := by omega
            have hd2 : dd ≤ 64 := by omega
            have C1 := Lib.hid (CKa.out wr.drew (HP.out.up hN (Below.drew (Below.refl _ _))) dd)
            have C2 := Lib.hid (fun W (h : Below wr.heap.size wr W) => CKb.out W (HP.out.up hN h) dd)
            have hkl := HKL.out dd
            generalize knownL own (tabK Vs') dd = KL at *
            have C3 := Lib.hid (fun W A1 A2 c1 c2 h1 h2 => CS2.out W A1 A2 c1 c2 KL h1 h2 (by omega))
            generalize hkln : KL.length = kl at *
            have HKn := Lib.hid hkln
            clear hkln hdd
            go_upto_region 17 with fail
            refine wp_region_held_drew (S := (fun W => W.cell? ⟨bw, 0, none⟩ = some (.int .i64 own) ∧ W.cell? ⟨bw, 1, none⟩ = some (.slice Ar4 n cr4))) (by kernel_rfl) ?_ (fun hHeld => ?_)
            · (try dsimp only); exact ⟨t0, t1⟩
            refine wpAnyH_take (i := 0) (v := ?_) rfl (by kernel_rfl) (by kernel_rfl) (by kernel_rfl) (fun _ _ _ h => h) (Or.inl ⟨by rfl, ?_⟩) (by assumption) ?_
            rotate_left
            first | (focus ((intro w hSw; (try dsimp only at hSw); go_simp); (try with_reducible rfl); done)) | fail
            try simp only [Act.put, List.getElem_toArray, List.getElem_cons_zero, List.setIfInBounds_toArray, List.set_cons_zero, List.set_cons_succ]
            refine wpAnyH_take (i := 1) (v := ?_) rfl (by kernel_rfl) (by kernel_rfl) (by kernel_rfl) (fun _ _ _ h => h) (Or.inl ⟨by rfl, ?_⟩) (by assumption) ?_
            rotate_left
            first | (focus ((intro w hSw; (try dsimp only at hSw); go_simp); (try with_reducible rfl); done)) | fail
            try simp only [Act.put, List.getElem_toArray, List.getElem_cons_zero, List.getElem_cons_succ, List.setIfInBounds_toArray, List.set_cons_zero, List.set_cons_succ]
            refine wpAnyH_take (i := 3) (v := ?_) rfl (by kernel_rfl) (by kernel_rfl) (by kernel_rfl) (fun _ _ _ h => h) (Or.inl ⟨by rfl, ?_⟩) (by assumption) ?_
            rotate_left
            first | (focus ((intro w hSw; (try dsimp only at hSw); go_simp); (try with_reducible rfl); done)) | fail
            try simp only [Act.put, List.getElem_toArray, List.getElem_cons_zero, List.getElem_cons_succ, List.setIfInBounds_toArray, List.set_cons_zero, List.set_cons_succ]
            refine wpAnyH_take (i := 4) (v := ?_) rfl (by kernel_rfl) (by kernel_rfl) (by kernel_rfl) (fun _ _ _ h => h) (Or.inl ⟨by rfl, ?_⟩) (by assumption) ?_
            rotate_left
            first | (focus ((intro w hSw; (try dsimp only at hSw); go_simp); (try with_reducible rfl); done)) | fail
            try simp only [Act.put, List.getElem_toArray, List.getElem_cons_zero, List.getElem_cons_succ, List.setIfInBounds_toArray, List.set_cons_zero, List.set_cons_succ]
            refine wpAnyH_ready (rs := [2]) (by kernel_rfl) (by simp) ?_
            refine AllReadyH.cons rfl (fun K hK => ?_) AllReadyH.nil
            go_simp
            refine C1.out.mono ?_; rintro e w7 ⟨A7, c7, he7, m7, b7⟩; rw [HKn.out] at he7; subst he7
            go_wp2_with fail
            refine hK.out _ _ ?_ (fun hHeld => ?_)
            · (try dsimp only); exact ⟨(b7.cell (by show bw < wr.heap.size; exact hbwi)).trans hHeld.1, (b7.cell (by show bw < wr.heap.size; exact hbwi)).trans hHeld.2⟩
            clear hK K
            try simp only [Act.put, List.getElem_toArray, List.getElem_cons_zero, List.getElem_cons_succ, List.setIfInBounds_toArray, List.set_cons_zero, List.set_cons_succ]
            have b7' : Below wr.heap.size wr w7 := (Below.drew (Below.refl _ _)).trans b7
            have hs7 := b7'.size
            refine wpAnyH_ready (rs := [5]) (by kernel_rfl) (by simp) ?_
            refine AllReadyH.cons rfl (fun K hK => ?_) AllReadyH.nil
            go_simp
            refine (C2.out w7 b7').mono ?_; rintro e w8 ⟨A8, c8, he8, m8, b8⟩; rw [HKn.out] at he8; subst he8
            go_wp2_with fail
            refine hK.out _ _ ?_ (fun hHeld => ?_)
            · (try dsimp only); exact ⟨(b8.cell (by show bw < w7.heap.size; omega)).trans hHeld.1, (b8.cell (by show bw < w7.heap.size; omega)).trans hHeld.2⟩
            clear hK K
            try simp only [Act.put, List.getElem_toArray, List.getElem_cons_zero, List.getElem_cons_succ, List.setIfInBounds_toArray, List.set_cons_zero, List.set_cons_succ]
            have hs8 := b8.size
            refine wpAnyH_ready (rs := [6]) (by kernel_rfl) (by simp) ?_
            refine AllReadyH.cons rfl (fun K hK => ?_) AllReadyH.nil
            go_simp
            refine (C3.out w8 A7 A8 c7 c8 (m7.up b8) m8).mono ?_; rintro e w9 ⟨rfl, b9⟩
            go_wp2_with fail
            refine hK.out _ _ ?_ (fun hHeld => ?_)
            · (try dsimp only); exact ⟨(b9.cell (by show bw < w8.heap.size; omega)).trans hHeld.1, (b9.cell (by show bw < w8.heap.size; omega)).trans hHeld.2⟩
            clear hK K
            try simp only [Act.put, List.getElem_toArray, List.getElem_cons_zero, List.getElem_cons_succ, List.setIfInBounds_toArray, List.set_cons_zero, List.set_cons_succ]
            refine wpAnyH_take (i := 7) (v := ?_) rfl (by kernel_rfl) (by kernel_rfl) (by kernel_rfl) (fun _ _ _ h => h) (Or.inl ⟨by rfl, ?_⟩) (by assumption) ?_
            rotate_left
            first | (focus ((intro w hSw; (try dsimp only at hSw); go_simp); (try with_reducible rfl); done)) | fail
            try simp only [Act.put, List.getElem_toArray, List.getElem_cons_zero, List.getElem_cons_succ, List.setIfInBounds_toArray, List.set_cons_zero, List.set_cons_succ]
            refine wpAnyH_done (by kernel_rfl) ?_ _
            have H9 := Lib.hid (HP.out.up hN ((b7'.trans (below_of_le b8 hs7)).trans (below_of_le b9 (by omega))))
            clear m7 b7 b7' m8 b8 b9 hHeld C1 C2 C3
            go_wp2
            go_roundw
            case rel => exact ⟨d + 1, by omega, by have := HDD.out; congr 1; omega, H9.out⟩
            case measure =>
              have := HDD.out
              simp only [intOf]
              omega
          · have hd' : d = n + 2 := by omega
            subst hd'
            have hgt : ¬ (((n + 2 : Nat) : Int) - 1 ≤ (n : Int)) := by omega
            go_wp2
            exact ⟨⟨j + 1, Vs', Ar4, cr4, Rs4, by omega, by go_num, HP.out⟩, by simp [intOf]; omega⟩
    · have hj' : j = wn := by omega
      subst hj'
      have COt := Lib.hid (fun W (h : PpI w N t bw own A c n bs Vs Ar' cr' Rs W) => (ptothers_any W t own A c Vs h.tab).mono (fun e w' h' => show NewIs W (othersTo own n) e w' from by rw [HI.out.vl] at h'; exact h'))
      have COr := Lib.hid (fun W (h : PpI w N t bw own A c n bs Vs Ar' cr' Rs W) => rothers36_any W own Ar' cr' n hn64)
      have t0 := HI.out.box.cell 0
      have t1 := HI.out.box.cell 1
      change _ = some (Value.int .i64 own) at t0
      change _ = some (Value.slice Ar' n cr') at t1
      have hol := othersTo_len own n
      generalize othersTo own n = OL at *
      generalize hoL : OL.length = ol at *
      have HOL := Lib.hid hoL
      clear hoL
      go_wp2_with fail
      refine (COt.out wr HI.out).mono ?_; rintro e w7 ⟨A7, c7, he, o7, b7⟩
      rw [HOL.out] at he o7
      subst he
      have hN7 := b7.size
      have H7 := Lib.hid (And.intro (HI.out.up hN b7) o7)
      have t0 := H7.out.1.box.cell 0
      have t1 := H7.out.1.box.cell 1
      change _ = some (Value.int .i64 own) at t0
      change _ = some (Value.slice Ar' n cr') at t1
      clear o7 b7 COt
      go_wp2_with fail
      refine (COr.out w7 H7.out.1).mono ?_; rintro e w8 ⟨A8, c8, he, o8, b8⟩
      rw [HOL.out] at he o8
      subst he
      have H8 := Lib.hid (And.intro (H7.out.1.up hN b8) (And.intro ((H7.out.2.rd.below b8).more b8.size) o8.rd))
      clear o8 b8 COr H7
      go_wp2_with fail
      go_loopw [16] (fun y wi => ∃ d : Nat, d ≤ ol ∧ y = .int .i64 d ∧ PpI w N t bw own A c n bs Vs Ar' cr' Rs wi ∧ Rd wi wi.heap.size 1 A7 ol (iv OL) ∧ Rd wi wi.heap.size 1 A8 ol (iv OL)) (fun y _ => ol - (intOf y).toNat)
      case atStart => exact ⟨0, by omega, rfl, H8.out.1, H8.out.2.1, H8.out.2.2⟩
      case round =>
        obtain ⟨d, hd, rfl, hP, r7, r8⟩ := hrel
        have HP := Lib.hid (And.intro hP (And.intro r7 r8))
        by_cases hdl : d < ol
        · obtain ⟨g7, p7, u7, hA7, hg7, hu7, k7⟩ := r7.at_ hdl
          obtain ⟨g8, p8, u8, hA8, hg8, hu8, k8⟩ := r8.at_ hdl
          rw [hu7] at hu8
          cases hu8
          obtain ⟨v, rfl⟩ : ∃ v : Int, u7 = .int .i64 v := by
            unfold iv at hu7
            rw [List.getElem?_map] at hu7
            cases hq : OL[d]? with
            | none => rw [hq] at hu7; cases hu7
            | some v => rw [hq] at hu7; cases hu7; exact ⟨v, rfl⟩
          have hvv : (v != v) = false := by simp
          clear hP r7 r8 hu7 H8
          subst hA7 hA8
          go_wp2_with fail
          refine wp_region_held_drew (S := (fun W => W.cell? ⟨g7, p7 + d, none⟩ = some (.int .i64 v) ∧ W.cell? ⟨g8, p8 + d, none⟩ = some (.int .i64 v))) (by kernel_rfl) ?_ (fun hHeld => ?_)
          · (try dsimp only); exact ⟨k7, k8⟩
          refine wpAnyH_take (i := 0) (v := ?_) rfl (by kernel_rfl) (by kernel_rfl) (by kernel_rfl) (fun _ _ _ h => h) (Or.inl ⟨by rfl, ?_⟩) (by assumption) ?_
          rotate_left
          first | (focus ((intro w hSw; (try dsimp only at hSw); go_simp); (try with_reducible rfl); done)) | fail
          try simp only [Act.put, List.getElem_toArray, List.getElem_cons_zero, List.setIfInBounds_toArray, List.set_cons_zero, List.set_cons_succ]
          refine wpAnyH_take (i := 1) (v := ?_) rfl (by kernel_rfl) (by kernel_rfl) (by kernel_rfl) (fun _ _ _ h => h) (Or.inl ⟨by rfl, ?_⟩) (by assumption) ?_
          rotate_left
          first | (focus ((intro w hSw; (try dsimp only at hSw); go_simp); (try with_reducible rfl); done)) | fail
          try simp only [Act.put, List.getElem_toArray, List.getElem_cons_zero, List.getElem_cons_succ, List.setIfInBounds_toArray, List.set_cons_zero, List.set_cons_succ]
          refine wpAnyH_take (i := 2) (v := ?_) rfl (by kernel_rfl) (by kernel_rfl) (by kernel_rfl) (fun _ _ _ h => h) (Or.inl ⟨by rfl, ?_⟩) (by assumption) ?_
          rotate_left
          first | (focus ((intro w hSw; (try dsimp only at hSw); go_simp); (try with_reducible rfl); done)) | fail
          try simp only [Act.put, List.getElem_toArray, List.getElem_cons_zero, List.getElem_cons_succ, List.setIfInBounds_toArray, List.set_cons_zero, List.set_cons_succ]
          refine wpAnyH_take (i := 3) (v := ?_) rfl (by kernel_rfl) (by kernel_rfl) (by kernel_rfl) (fun _ _ _ h => h) (Or.inl ⟨by rfl, ?_⟩) (by assumption) ?_
          rotate_left
          first | (focus ((intro w hSw; (try dsimp only at hSw); go_simp); (try with_reducible rfl); done)) | fail
          try simp only [Act.put, List.getElem_toArray, List.getElem_cons_zero, List.getElem_cons_succ, List.setIfInBounds_toArray, List.set_cons_zero, List.set_cons_succ]
          refine wpAnyH_take (i := 4) (v := ?_) rfl (by kernel_rfl) (by kernel_rfl) (by kernel_rfl) (fun _ _ _ h => h) (Or.inl ⟨by rfl, ?_⟩) (by assumption) ?_
          rotate_left
          first | (focus ((intro w hSw; (try dsimp only at hSw); go_simp); (try with_reducible rfl); done)) | fail
          try simp only [Act.put, List.getElem_toArray, List.getElem_cons_zero, List.getElem_cons_succ, List.setIfInBounds_toArray, List.set_cons_zero, List.set_cons_succ]
          refine wpAnyH_take (i := 5) (v := ?_) rfl (by kernel_rfl) (by kernel_rfl) (by kernel_rfl) (fun _ _ _ h => h) (Or.inl ⟨by rfl, ?_⟩) (by assumption) ?_
          rotate_left
          first | (focus ((intro w hSw; (try dsimp only at hSw); go_simp); (try with_reducible rfl); done)) | fail
          try simp only [Act.put, List.getElem_toArray, List.getElem_cons_zero, List.getElem_cons_succ, List.setIfInBounds_toArray, List.set_cons_zero, List.set_cons_succ]
          refine wpAnyH_take (i := 6) (v := ?_) rfl (by kernel_rfl) (by kernel_rfl) (by kernel_rfl) (fun _ _ _ h => h) (Or.inl ⟨by rfl, ?_⟩) (by assumption) ?_
          rotate_left
          first | (focus ((intro w hSw; (try dsimp only at hSw); go_simp); (try with_reducible rfl); done)) | fail
          try simp only [Act.put, List.getElem_toArray, List.getElem_cons_zero, List.getElem_cons_succ, List.setIfInBounds_toArray, List.set_cons_zero, List.set_cons_succ]
          refine wpAnyH_take (i := 7) (v := ?_) rfl (by kernel_rfl) (by kernel_rfl) (by kernel_rfl) (fun _ _ _ h => h) (Or.inl ⟨by rfl, ?_⟩) (by assumption) ?_
          rotate_left
          first | (focus ((intro w hSw; (try dsimp only at hSw); go_simp); (try with_reducible rfl); done)) | fail
          try simp only [Act.put, List.getElem_toArray, List.getElem_cons_zero, List.getElem_cons_succ, List.setIfInBounds_toArray, List.set_cons_zero, List.set_cons_succ]
          refine wpAnyH_take (i := 8) (v := ?_) rfl (by kernel_rfl) (by kernel_rfl) (by kernel_rfl) (fun _ _ _ h => h) (Or.inl ⟨by rfl, ?_⟩) (by assumption) ?_
          rotate_left
          first | (focus ((intro w hSw; (try dsimp only at hSw); go_simp); (try with_reducible rfl); done)) | fail
          try simp only [Act.put, List.getElem_toArray, List.getElem_cons_zero, List.getElem_cons_succ, List.setIfInBounds_toArray, List.set_cons_zero, List.set_cons_succ]
          refine wpAnyH_done (by kernel_rfl) ?_ _
          have hd' : Below wr.heap.size wr wr.drew := Below.drew (Below.refl _ _)
          have H9 := Lib.hid (And.intro (HP.out.1.up hN hd') (And.intro (HP.out.2.1.drew) (HP.out.2.2.drew)))
          clear hHeld
          go_wp2
          go_roundw
          case rel => exact ⟨d + 1, by omega, by go_num, H9.out.1, H9.out.2.1, H9.out.2.2⟩
          case measure => simp [intOf]; omega
        · have hd' : d = ol := by omega
          subst hd'
          have hkv := HP.out.1.kv
          have hst : stabL own (rtK Rs) M (chkE M) = stabL own (tabK Vs) M (chkE M) := by rw [HP.out.1.k]
          have hev : evenTo own (rtK Rs) M n = evenTo own (tabK Vs) M Vs.length := by rw [HP.out.1.k, HP.out.1.vl]
          have CSa := Lib.hid (fun W (h : Below wr.heap.size wr W) => ptstable_any W t own A c Vs (HP.out.1.up hN h).tab Am cm M (HM.out.up (hN ▸ (HP.out.1.up hN h).bel)) (by rw [HMn.out]; omega))
          have CSb := Lib.hid (fun W (h : Below wr.heap.size wr W) => rstable36_any W own Ar' cr' Rs n (HP.out.1.rn) (HP.out.1.up hN h).rt hn64 hkv Am cm M (HM.out.up (hN ▸ (HP.out.1.up hN h).bel)) (by rw [HMn.out]; omega))
          have CEa := Lib.hid (fun W (h : Below wr.heap.size wr W) => pteven_any W t own A c Vs (HP.out.1.up hN h).tab Am cm M (HM.out.up (hN ▸ (HP.out.1.up hN h).bel)) (by rw [HMn.out]; omega))
          have CEb := Lib.hid (fun W (h : Below wr.heap.size wr W) => reven36_any W own Ar' cr' Rs n (HP.out.1.rn) (HP.out.1.up hN h).rt hn64 hkv Am cm M (HM.out.up (hN ▸ (HP.out.1.up hN h).bel)) (by rw [HMn.out]; omega))
          rw [HMn.out] at CSa CSb CEa CEb
          rw [hst] at CSb
          rw [hev] at CEb
          have hsl : (stabL own (tabK Vs) M (chkE M)).length ≤ 67108928 := (stabL_vw rfl).len
          generalize stabL own (tabK Vs) M (chkE M) = SL at *
          generalize (decide (chkE M = 0) && evenTo own (tabK Vs) M Vs.length) = ev at *
          have C3 := Lib.hid (fun W A1 A2 c1 c2 h1 h2 => CS2.out W A1 A2 c1 c2 SL h1 h2 (by omega))
          generalize hsn : SL.length = sn at *
          have HSn := Lib.hid hsn
          have t0 := HP.out.1.box.cell 0
          have t1 := HP.out.1.box.cell 1
          change _ = some (Value.int .i64 own) at t0
          change _ = some (Value.slice Ar' n cr') at t1
          have hbwi : bw < wr.heap.size := HP.out.1.box.lt
          have hbel := HP.out.1.bel
          have HBel := Lib.hid hbel
          have hee : (ev == ev) = true := by simp
          clear hsn hst hev hkv hbel hP r7 r8 H8 HI
          go_upto_region 28 with fail
          refine wp_region_held_drew (S := (fun W => W.cell? ⟨bw, 0, none⟩ = some (.int .i64 own) ∧ W.cell? ⟨bw, 1, none⟩ = some (.slice Ar' n cr'))) (by kernel_rfl) ?_ (fun hHeld => ?_)
          · (try dsimp only); exact ⟨t0, t1⟩
          refine wpAnyH_take (i := 0) (v := ?_) rfl (by kernel_rfl) (by kernel_rfl) (by kernel_rfl) (fun _ _ _ h => h) (Or.inl ⟨by rfl, ?_⟩) (by assumption) ?_
          rotate_left
          first | (focus ((intro w hSw; (try dsimp only at hSw); go_simp); (try with_reducible rfl); done)) | fail
          try simp only [Act.put, List.getElem_toArray, List.getElem_cons_zero, List.setIfInBounds_toArray, List.set_cons_zero, List.set_cons_succ]
          refine wpAnyH_take (i := 1) (v := ?_) rfl (by kernel_rfl) (by kernel_rfl) (by kernel_rfl) (fun _ _ _ h => h) (Or.inl ⟨by rfl, ?_⟩) (by assumption) ?_
          rotate_left
          first | (focus ((intro w hSw; (try dsimp only at hSw); go_simp); (try with_reducible rfl); done)) | fail
          try simp only [Act.put, List.getElem_toArray, List.getElem_cons_zero, List.getElem_cons_succ, List.setIfInBounds_toArray, List.set_cons_zero, List.set_cons_succ]
          refine wpAnyH_take (i := 2) (v := ?_) rfl (by kernel_rfl) (by kernel_rfl) (by kernel_rfl) (fun _ _ _ h => h) (Or.inl ⟨by rfl, ?_⟩) (by assumption) ?_
          rotate_left
          first | (focus ((intro w hSw; (try dsimp only at hSw); go_simp); (try with_reducible rfl); done)) | fail
          try simp only [Act.put, List.getElem_toArray, List.getElem_cons_zero, List.getElem_cons_succ, List.setIfInBounds_toArray, List.set_cons_zero, List.set_cons_succ]
          refine wpAnyH_take (i := 3) (v := ?_) rfl (by kernel_rfl) (by kernel_rfl) (by kernel_rfl) (fun _ _ _ h => h) (Or.inl ⟨by rfl, ?_⟩) (by assumption) ?_
          rotate_left
          first | (focus ((intro w hSw; (try dsimp only at hSw); go_simp); (try with_reducible rfl); done)) | fail
          try simp only [Act.put, List.getElem_toArray, List.getElem_cons_zero, List.getElem_cons_succ, List.setIfInBounds_toArray, List.set_cons_zero, List.set_cons_succ]
          refine wpAnyH_take (i := 4) (v := ?_) rfl (by kernel_rfl) (by kernel_rfl) (by kernel_rfl) (fun _ _ _ h => h) (Or.inl ⟨by rfl, ?_⟩) (by assumption) ?_
          rotate_left
          first | (focus ((intro w hSw; (try dsimp only at hSw); go_simp); (try with_reducible rfl); done)) | fail
          try simp only [Act.put, List.getElem_toArray, List.getElem_cons_zero, List.getElem_cons_succ, List.setIfInBounds_toArray, List.set_cons_zero, List.set_cons_succ]
          refine wpAnyH_take (i := 6) (v := ?_) rfl (by kernel_rfl) (by kernel_rfl) (by kernel_rfl) (fun _ _ _ h => h) (Or.inl ⟨by rfl, ?_⟩) (by assumption) ?_
          rotate_left
          first | (focus ((intro w hSw; (try dsimp only at hSw); go_simp); (try with_reducible rfl); done)) | fail
          try simp only [Act.put, List.getElem_toArray, List.getElem_cons_zero, List.getElem_cons_succ, List.setIfInBounds_toArray, List.set_cons_zero, List.set_cons_succ]
          refine wpAnyH_take (i := 7) (v := ?_) rfl (by kernel_rfl) (by kernel_rfl) (by kernel_rfl) (fun _ _ _ h => h) (Or.inl ⟨by rfl, ?_⟩) (by assumption) ?_
          rotate_left
          first | (focus ((intro w hSw; (try dsimp only at hSw); go_simp); (try with_reducible rfl); done)) | fail
          try simp only [Act.put, List.getElem_toArray, List.getElem_cons_zero, List.getElem_cons_succ, List.setIfInBounds_toArray, List.set_cons_zero, List.set_cons_succ]
          refine wpAnyH_ready (rs := [5]) (by kernel_rfl) (by simp) ?_
          refine AllReadyH.cons rfl (fun K hK => ?_) AllReadyH.nil
          go_simp
          refine (CSa.out _ (Below.drew (Below.refl _ _))).mono ?_; rintro e v1 ⟨A9, c9, he9, m9, b9⟩; rw [HSn.out] at he9; subst he9
          go_wp2_with fail
          refine hK.out _ _ ?_ (fun hHeld => ?_)
          · (try dsimp only); exact ⟨(b9.cell (by show bw < wr.heap.size; exact hbwi)).trans hHeld.1, (b9.cell (by show bw < wr.heap.size; exact hbwi)).trans hHeld.2⟩
          clear hK K
          try simp only [Act.put, List.getElem_toArray, List.getElem_cons_zero, List.getElem_cons_succ, List.setIfInBounds_toArray, List.set_cons_zero, List.set_cons_succ]
          have b9' : Below wr.heap.size wr v1 := (Below.drew (Below.refl _ _)).trans b9
          have hs9 := b9'.size
          refine wpAnyH_ready (rs := [8]) (by kernel_rfl) (by simp) ?_
          refine AllReadyH.cons rfl (fun K hK => ?_) AllReadyH.nil
          go_simp
          refine (CSb.out v1 b9').mono ?_; rintro e v2 ⟨A10, c10, he10, m10, b10⟩; rw [HSn.out] at he10; subst he10
          go_wp2_with fail
          refine hK.out _ _ ?_ (fun hHeld => ?_)
          · (try dsimp only); exact ⟨(b10.cell (by show bw < v1.heap.size; omega)).trans hHeld.1, (b10.cell (by show bw < v1.heap.size; omega)).trans hHeld.2⟩
          clear hK K
          try simp only [Act.put, List.getElem_toArray, List.getElem_cons_zero, List.getElem_cons_succ, List.setIfInBounds_toArray, List.set_cons_zero, List.set_cons_succ]
          have b10' : Below wr.heap.size wr v2 := b9'.trans (below_of_le b10 hs9)
          have hs10 := b10'.size
          refine wpAnyH_ready (rs := [9]) (by kernel_rfl) (by simp) ?_
          refine AllReadyH.cons rfl (fun K hK => ?_) AllReadyH.nil
          go_simp
          refine (C3.out v2 A9 A10 c9 c10 (m9.up b10) m10).mono ?_; rintro e v3 ⟨rfl, b11⟩
          go_wp2_with fail
          refine hK.out _ _ ?_ (fun hHeld => ?_)
          · (try dsimp only); exact ⟨(b11.cell (by show bw < v2.heap.size; omega)).trans hHeld.1, (b11.cell (by show bw < v2.heap.size; omega)).trans hHeld.2⟩
          clear hK K
          try simp only [Act.put, List.getElem_toArray, List.getElem_cons_zero, List.getElem_cons_succ, List.setIfInBounds_toArray, List.set_cons_zero, List.set_cons_succ]
          have b11' : Below wr.heap.size wr v3 := b10'.trans (below_of_le b11 hs10)
          have hs11 := b11'.size
          refine wpAnyH_take (i := 10) (v := ?_) rfl (by kernel_rfl) (by kernel_rfl) (by kernel_rfl) (fun _ _ _ h => h) (Or.inl ⟨by rfl, ?_⟩) (by assumption) ?_
          rotate_left
          first | (focus ((intro w hSw; (try dsimp only at hSw); go_simp); (try with_reducible rfl); done)) | fail
          try simp only [Act.put, List.getElem_toArray, List.getElem_cons_zero, List.getElem_cons_succ, List.setIfInBounds_toArray, List.set_cons_zero, List.set_cons_succ]
          refine wpAnyH_take (i := 11) (v := ?_) rfl (by kernel_rfl) (by kernel_rfl) (by kernel_rfl) (fun _ _ _ h => h) (Or.inl ⟨by rfl, ?_⟩) (by assumption) ?_
          rotate_left
          first | (focus ((intro w hSw; (try dsimp only at hSw); go_simp); (try with_reducible rfl); done)) | fail
          try simp only [Act.put, List.getElem_toArray, List.getElem_cons_zero, List.getElem_cons_succ, List.setIfInBounds_toArray, List.set_cons_zero, List.set_cons_succ]
          refine wpAnyH_take (i := 12) (v := ?_) rfl (by kernel_rfl) (by kernel_rfl) (by kernel_rfl) (fun _ _ _ h => h) (Or.inl ⟨by rfl, ?_⟩) (by assumption) ?_
          rotate_left
          first | (focus ((intro w hSw; (try dsimp only at hSw); go_simp); (try with_reducible rfl); done)) | fail
          try simp only [Act.put, List.getElem_toArray, List.getElem_cons_zero, List.getElem_cons_succ, List.setIfInBounds_toArray, List.set_cons_zero, List.set_cons_succ]
          refine wpAnyH_take (i := 13) (v := ?_) rfl (by kernel_rfl) (by kernel_rfl) (by kernel_rfl) (fun _ _ _ h => h) (Or.inl ⟨by rfl, ?_⟩) (by assumption) ?_
          rotate_left
          first | (focus ((intro w hSw; (try dsimp only at hSw); go_simp); (try with_reducible rfl); done)) | fail
          try simp only [Act.put, List.getElem_toArray, List.getElem_cons_zero, List.getElem_cons_succ, List.setIfInBounds_toArray, List.set_cons_zero, List.set_cons_succ]
          refine wpAnyH_take (i := 15) (v := ?_) rfl (by kernel_rfl) (by kernel_rfl) (by kernel_rfl) (fun _ _ _ h => h) (Or.inl ⟨by rfl, ?_⟩) (by assumption) ?_
          rotate_left
          first | (focus ((intro w hSw; (try dsimp only at hSw); go_simp); (try with_reducible rfl); done)) | fail
          try simp only [Act.put, List.getElem_toArray, List.getElem_cons_zero, List.getElem_cons_succ, List.setIfInBounds_toArray, List.set_cons_zero, List.set_cons_succ]
          refine wpAnyH_take (i := 16) (v := ?_) rfl (by kernel_rfl) (by kernel_rfl) (by kernel_rfl) (fun _ _ _ h => h) (Or.inl ⟨by rfl, ?_⟩) (by assumption) ?_
          rotate_left
          first | (focus ((intro w hSw; (try dsimp only at hSw); go_simp); (try with_reducible rfl); done)) | fail
          try simp only [Act.put, List.getElem_toArray, List.getElem_cons_zero, List.getElem_cons_succ, List.setIfInBounds_toArray, List.set_cons_zero, List.set_cons_succ]
          refine wpAnyH_ready (rs := [14]) (by kernel_rfl) (by simp) ?_
          refine AllReadyH.cons rfl (fun K hK => ?_) AllReadyH.nil
          go_simp
          refine (CEa.out v3 b11').mono ?_; rintro e v4 ⟨rfl, b12⟩
          go_wp2_with fail
          refine hK.out _ _ ?_ (fun hHeld => ?_)
          · (try dsimp only); exact ⟨(b12.cell (by show bw < v3.heap.size; omega)).trans hHeld.1, (b12.cell (by show bw < v3.heap.size; omega)).trans hHeld.2⟩
          clear hK K
          try simp only [Act.put, List.getElem_toArray, List.getElem_cons_zero, List.getElem_cons_succ, List.setIfInBounds_toArray, List.set_cons_zero, List.set_cons_succ]
          have b12' : Below wr.heap.size wr v4 := b11'.trans (below_of_le b12 hs11)
          have hs12 := b12'.size
          refine wpAnyH_ready (rs := [17]) (by kernel_rfl) (by simp) ?_
          refine AllReadyH.cons rfl (fun K hK => ?_) AllReadyH.nil
          go_simp
          refine (CEb.out v4 b12').mono ?_; rintro e v5 ⟨rfl, b13⟩
          go_wp2_with fail
          refine hK.out _ _ ?_ (fun hHeld => ?_)
          · (try dsimp only); exact ⟨(b13.cell (by show bw < v4.heap.size; omega)).trans hHeld.1, (b13.cell (by show bw < v4.heap.size; omega)).trans hHeld.2⟩
          clear hK K
          try simp only [Act.put, List.getElem_toArray, List.getElem_cons_zero, List.getElem_cons_succ, List.setIfInBounds_toArray, List.set_cons_zero, List.set_cons_succ]
          have b13' : Below wr.heap.size wr v5 := b12'.trans (below_of_le b13 hs12)
          have hs13 := b13'.size
          refine wpAnyH_take (i := 18) (v := ?_) rfl (by kernel_rfl) (by kernel_rfl) (by kernel_rfl) (fun _ _ _ h => h) (Or.inl ⟨by rfl, ?_⟩) (by assumption) ?_
          rotate_left
          first | (focus ((intro w hSw; (try dsimp only at hSw); go_simp); (try with_reducible rfl); done)) | fail
          try simp only [Act.put, List.getElem_toArray, List.getElem_cons_zero, List.getElem_cons_succ, List.setIfInBounds_toArray, List.set_cons_zero, List.set_cons_succ]
          refine wpAnyH_take (i := 19) (v := ?_) rfl (by kernel_rfl) (by kernel_rfl) (by kernel_rfl) (fun _ _ _ h => h) (Or.inl ⟨by rfl, ?_⟩) (by assumption) ?_
          rotate_left
          first | (focus ((intro w hSw; (try dsimp only at hSw); go_simp); (try with_reducible rfl); done)) | fail
          try simp only [Act.put, List.getElem_toArray, List.getElem_cons_zero, List.getElem_cons_succ, List.setIfInBounds_toArray, List.set_cons_zero, List.set_cons_succ]
          refine wpAnyH_take (i := 20) (v := ?_) rfl (by kernel_rfl) (by kernel_rfl) (by kernel_rfl) (fun _ _ _ h => h) (Or.inl ⟨by rfl, ?_⟩) (by assumption) ?_
          rotate_left
          first | (focus ((intro w hSw; (try dsimp only at hSw); go_simp); (try with_reducible rfl); done)) | fail
          try simp only [Act.put, List.getElem_toArray, List.getElem_cons_zero, List.getElem_cons_succ, List.setIfInBounds_toArray, List.set_cons_zero, List.set_cons_succ]
          refine wpAnyH_ready (rs := [21]) (by kernel_rfl) (by simp) ?_
          refine AllReadyH.cons rfl (fun K hK => ?_) AllReadyH.nil
          go_simp
          refine (C9.out v5).mono ?_; rintro e v6 ⟨rfl, b14⟩
          go_wp2_with fail
          refine hK.out _ _ ?_ (fun hHeld => ?_)
          · (try dsimp only); exact ⟨(b14.cell (by show bw < v5.heap.size; omega)).trans hHeld.1, (b14.cell (by show bw < v5.heap.size; omega)).trans hHeld.2⟩
          clear hK K
          try simp only [Act.put, List.getElem_toArray, List.getElem_cons_zero, List.getElem_cons_succ, List.setIfInBounds_toArray, List.set_cons_zero, List.set_cons_succ]
          refine wpAnyH_take (i := 22) (v := ?_) rfl (by kernel_rfl) (by kernel_rfl) (by kernel_rfl) (fun _ _ _ h => h) (Or.inl ⟨by rfl, ?_⟩) (by assumption) ?_
          rotate_left
          first | (focus ((intro w hSw; (try dsimp only at hSw); go_simp); (try with_reducible rfl); done)) | fail
          try simp only [Act.put, List.getElem_toArray, List.getElem_cons_zero, List.getElem_cons_succ, List.setIfInBounds_toArray, List.set_cons_zero, List.set_cons_succ]
          refine wpAnyH_take (i := 23) (v := ?_) rfl (by kernel_rfl) (by kernel_rfl) (by kernel_rfl) (fun _ _ _ h => h) (Or.inl ⟨by rfl, ?_⟩) (by assumption) ?_
          rotate_left
          first | (focus ((intro w hSw; (try dsimp only at hSw); go_simp); (try with_reducible rfl); done)) | fail
          try simp only [Act.put, List.getElem_toArray, List.getElem_cons_zero, List.getElem_cons_succ, List.setIfInBounds_toArray, List.set_cons_zero, List.set_cons_succ]
          refine wpAnyH_done (by kernel_rfl) ?_ _
          have HF := Lib.hid (HBel.out.trans (below_of_le (b13'.trans (below_of_le b14 hs13)) (hN ▸ HBel.out.size)))
          clear m9 m10 b9 b9' b10 b10' b11 b11' b12 b12' b13 b13' b14 hHeld
          go_wp2
          go_ret
          exact ⟨rfl, HF.out⟩
theorem peersPlay_law (w : World) {va vl vm : Value} (ha : IsArr2 va) (hl : IsWords w vl) (hm : IsRecs 3 w vm) :
    Calls Try.prog 12 #[va, vl, vm] w fun e w' => e = .returned (.bool true) ∧ Below w.heap.size w w' := by
  obtain ⟨a, b, rfl, hab, hbb⟩ := ha
  obtain ⟨Al, cl, Ws, rfl, hlc, hcl, hWs⟩ := hl
  obtain ⟨Am, cm, M, rfl, hmc, hcm, hM, hok⟩ := recs_list hm
  have hmx : maxLen ≤ 9223372036854775807 := by decide
  by_cases hli : lightB Ws = true ∧ M.length ≤ 100
  · by_cases hn : 1 ≤ a ∧ a ≤ 64 ∧ 0 ≤ b ∧ b < a
    · obtain ⟨n, rfl⟩ := Int.eq_ofNat_of_zero_le (show 0 ≤ a by omega)
      exact peersPlay_in w n b Al cl Ws Am cm M (by omega) (by omega) hn.2.2.1 hn.2.2.2 hWs hM hli.1 hli.2
    · have C9 := Lib.hid awake36_any
      have CL := Lib.hid (fun W (h : WsAt W Al Ws) => light36_any W Al cl Ws h (by omega))
      rw [hli.1] at CL
      have CN := Lib.hid (fun W => ptnew_no W a b (eq_false hn))
      have B0 := below_alloc_book w (.cells #[.int .i64 a, .int .i64 b] 86)
      have H0 := Lib.hid (And.intro (Whole.new w 86 #[.int .i64 a, .int .i64 b]) (And.intro (hWs.up B0) B0))
      have h100 := hli.2
      generalize M.length = mn at *
      generalize Ws.length = wn at *
      have g1 : decide (100 < (mn : Int)) = false := by simp; omega
      have hor : (decide (a < 1) || decide (64 < a) || decide (b < 0) || decide (a ≤ b)) = true := by simp; omega
      clear hWs hM hok hm hli hmc hcm hlc hcl B0
      generalize hN : w.heap.size = N at *
      go_enter Try.func12, Try.ntmps12
      go_wp2_with fail
      generalize (w.alloc (.cells #[.int .i64 a, .int .i64 b] 86)) = W0 at *
      refine (CL.out _ H0.out.2.1).mono ?_; rintro e w1 ⟨rfl, b1⟩
      have hz0 : N < W0.heap.size := H0.out.1.lt
      have H1 := Lib.hid (And.intro (H0.out.1.below b1 hz0) (H0.out.2.2.trans (below_of_le b1 (by omega))))
      have k0 := H1.out.1.cell 0
      have k1 := H1.out.1.cell 1
      change _ = some (Value.int .i64 a) at k0
      change _ = some (Value.int .i64 b) at k1
      have hz1 : N < w1.heap.size := H1.out.1.lt
      clear b1 H0 CL
      go_wp2_with fail
      refine (CN.out w1).mono ?_; rintro e w2 ⟨rfl, b2⟩
      have H2 := Lib.hid (And.intro (H1.out.1.below b2 hz1) (H1.out.2.trans (below_of_le b2 (by omega))))
      have k0 := H2.out.1.cell 0
      have k1 := H2.out.1.cell 1
      change _ = some (Value.int .i64 a) at k0
      change _ = some (Value.int .i64 b) at k1
      have hz2 : N < w2.heap.size := H2.out.1.lt
      clear b2 H1 CN
      by_cases h1 : a < 1
      · clear hor hn
        go_wp2_with fail
        refine (C9.out w2).mono ?_; rintro e w3 ⟨rfl, b3⟩
        have HF := Lib.hid (H2.out.2.trans (below_of_le b3 (by omega)))
        clear b3
        go_wp2
        go_ret
        exact ⟨rfl, HF.out⟩
      · by_cases h2 : 64 < a
        · clear hor hn
          go_wp2_with fail
          refine (C9.out w2).mono ?_; rintro e w3 ⟨rfl, b3⟩
          have HF := Lib.hid (H2.out.2.trans (below_of_le b3 (by omega)))
          clear b3
          go_wp2
          go_ret
          exact ⟨rfl, HF.out⟩
        · by_cases h3 : b < 0
          · clear hor hn
            go_wp2_with fail
            refine (C9.out w2).mono ?_; rintro e w3 ⟨rfl, b3⟩
            have HF := Lib.hid (H2.out.2.trans (below_of_le b3 (by omega)))
            clear b3
            go_wp2
            go_ret
            exact ⟨rfl, HF.out⟩
          · have h4 : a ≤ b := by omega
            clear hor hn
            go_wp2_with fail
            refine (C9.out w2).mono ?_; rintro e w3 ⟨rfl, b3⟩
            have HF := Lib.hid (H2.out.2.trans (below_of_le b3 (by omega)))
            clear b3
            go_wp2
            go_ret
            exact ⟨rfl, HF.out⟩
  · have C9 := Lib.hid awake36_any
    have CL := Lib.hid (fun W (h : WsAt W Al Ws) => light36_any W Al cl Ws h (by omega))
    have hmm : M.length ≤ 9223372036854775807 := by omega
    have B0 := below_alloc_book w (.cells #[.int .i64 a, .int .i64 b] 86)
    have H0 := Lib.hid (And.intro (Whole.new w 86 #[.int .i64 a, .int .i64 b]) (And.intro (hWs.up B0) B0))
    cases hlb : lightB Ws
    · rw [hlb] at CL
      generalize M.length = mn at *
      generalize Ws.length = wn at *
      clear hWs hM hok hm hli hmc hcm hlc hcl B0 hlb
      generalize hN : w.heap.size = N at *
      go_enter Try.func12, Try.ntmps12
      go_wp2_with fail
      generalize (w.alloc (.cells #[.int .i64 a, .int .i64 b] 86)) = W0 at *
      refine (CL.out _ H0.out.2.1).mono ?_; rintro e w1 ⟨rfl, b1⟩
      have hz0 : N < W0.heap.size := H0.out.1.lt
      have H1 := Lib.hid (H0.out.2.2.trans (below_of_le b1 (by omega)))
      have hz1 : N ≤ w1.heap.size := by have := b1.size; omega
      clear b1 H0 CL
      go_wp2_with fail
      refine (C9.out w1).mono ?_; rintro e w3 ⟨rfl, b3⟩
      have HF := Lib.hid (H1.out.trans (below_of_le b3 hz1))
      clear b3
      go_wp2
      go_ret
      exact ⟨rfl, HF.out⟩
    · rw [hlb] at CL
      have h100 : 100 < M.length := by
        rcases Nat.lt_or_ge 100 M.length with h | h
        · exact h
        · exact absurd ⟨hlb, h⟩ hli
      generalize M.length = mn at *
      generalize Ws.length = wn at *
      have g1 : decide (100 < (mn : Int)) = true := by simp; omega
      clear hWs hM hok hm hli hmc hcm hlc hcl B0 hlb
      generalize hN : w.heap.size = N at *
      go_enter Try.func12, Try.ntmps12
      go_wp2_with fail
      generalize (w.alloc (.cells #[.int .i64 a, .int .i64 b] 86)) = W0 at *
      refine (CL.out _ H0.out.2.1).mono ?_; rintro e w1 ⟨rfl, b1⟩
      have hz0 : N < W0.heap.size := H0.out.1.lt
      have H1 := Lib.hid (H0.out.2.2.trans (below_of_le b1 (by omega)))
      have hz1 : N ≤ w1.heap.size := by have := b1.size; omega
      clear b1 H0 CL
      go_wp2_with fail
      refine (C9.out w1).mono ?_; rintro e w3 ⟨rfl, b3⟩
      have HF := Lib.hid (H1.out.trans (below_of_le b3 hz1))
      clear b3
      go_wp2
      go_ret
      exact ⟨rfl, HF.out⟩
end Go.Proofs.Ytailbppddnegoaa
