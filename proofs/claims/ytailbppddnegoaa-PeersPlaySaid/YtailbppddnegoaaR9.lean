/- Layer 36 (peers): the walk of the law PeersStable. -/
import Derived.Test.YtailbppddnegoaaR8
import Derived.Test.YtailbppddnegoaaYD
namespace Go.Proofs.Ytailbppddnegoaa
open Go.RowKit Go.Shelf
set_option linter.unusedVariables false
set_option maxRecDepth 100000
attribute [local go_sem ↓] Go.wp_at_zero Go.wp_at_succ

def wdP (x : Wd) : Int × List Dt := (x.dev, x.L)
/-- What the first loop of PeersStable has. -/
structure PsI (w : World) (N t : Nat) (A : Option Addr) (c : Nat) (Ws : List Wd) (M : List Dt) (kn : Nat) (bs : List Nat) (j : Nat) (Vs : List Vn) (A0 : Option Addr) (S : List Dt) (W : World) : Prop where
  tab : TabIs W t 0 A c Vs
  k : tabK Vs = hearAll 0 (List.replicate kn []) ((Ws.take j).map wdP)
  last : MsAt W A0 S
  s : S = if j = 0 then [] else stabL 0 (tabK Vs) M (chkE M)
  b : Vs.map (·.b) = bs
  bel : Below N w W
theorem PsI.up {w : World} {N t : Nat} {A : Option Addr} {c : Nat} {Ws : List Wd} {M : List Dt} {kn : Nat} {bs : List Nat} {j : Nat} {Vs : List Vn} {A0 : Option Addr} {S : List Dt} {W W' : World} (hN : w.heap.size = N) (h : PsI w N t A c Ws M kn bs j Vs A0 S W) (b : Below W.heap.size W W') : PsI w N t A c Ws M kn bs j Vs A0 S W' :=
  ⟨h.tab.up b, h.k, h.last.up b, h.s, h.b, h.bel.trans (below_of_le b (hN ▸ h.bel.size))⟩
theorem PsI.klen {w : World} {N t : Nat} {A : Option Addr} {c : Nat} {Ws : List Wd} {M : List Dt} {kn : Nat} {bs : List Nat} {j : Nat} {Vs : List Vn} {A0 : Option Addr} {S : List Dt} {W : World} (h : PsI w N t A c Ws M kn bs j Vs A0 S W) : Vs.length = kn := by
  rw [← tabK_len, h.k, hearAll_len, List.length_replicate]
theorem PsI.slen {w : World} {N t : Nat} {A : Option Addr} {c : Nat} {Ws : List Wd} {M : List Dt} {kn : Nat} {bs : List Nat} {j : Nat} {Vs : List Vn} {A0 : Option Addr} {S : List Dt} {W : World} (h : PsI w N t A c Ws M kn bs j Vs A0 S W) : S.length ≤ 67108928 := by
  rw [h.s]
  split
  · simp
  · exact (stabL_vw rfl).len
theorem TabIs.keepMs {w w' : World} {t c : Nat} {own : Int} {A A0 : Option Addr} {Vs : List Vn} {S : List Dt} (h : TabIs w t own A c Vs) (hS : MsAt w A0 S) (hc : Ch (fun k => k ∈ Vs.map (·.b)) w w') : MsAt w' A0 S := by
  cases S with
  | nil => exact ⟨rfl, fun h => absurd h (by simp)⟩
  | cons x r =>
    obtain ⟨b, o, hA, hb, c0, _, _⟩ := Ds.at_ (i := 0) hS (x := x) rfl
    subst hA
    refine hS.ch hc fun k hk hmem => ?_
    cases hk
    obtain ⟨y, hy, e⟩ := List.mem_map.1 hmem
    exact (h.vec y hy).cell_ne c0 e.symm
theorem hear_take {kn : Nat} {Ws : List Wd} {j : Nat} {x : Wd} (hx : Ws[j]? = some x) : hearAll 0 (List.replicate kn []) ((Ws.take (j + 1)).map wdP) = heardK 0 (hearAll 0 (List.replicate kn []) ((Ws.take j).map wdP)) x.dev x.L (chkE x.L) := by
  rw [List.take_add_one, hx, List.map_append]
  exact hearAll_snoc _ _ _ _
set_option maxHeartbeats 8000000 in
theorem peersStable_in (w : World) (Al : Option Addr) (cl : Nat) (Ws : List Wd) (Am : Option Addr) (cm : Nat) (M : List Dt) (a : Int) (ha : 0 ≤ a ∧ a ≤ 255) (hl : WsAt w Al Ws) (hm : MsAt w Am M) (hli : lightB Ws = true) (h100 : M.length ≤ 100) :
    Calls Try.prog 9 #[.int .u8 a, .slice Al Ws.length cl, .slice Am M.length cm] w fun e w' => e = .returned (.bool true) ∧ Below w.heap.size w w' := by
  obtain ⟨h30, h50⟩ := lightB_iff.1 hli
  have C9 := Lib.hid awake36_any
  have CL := Lib.hid (light36_any w Al cl Ws hl (by omega))
  rw [hli] at CL
  obtain ⟨kn, hkn, hk1, hk6⟩ : ∃ kn : Nat, a % 6 + 1 = (kn : Int) ∧ 1 ≤ kn ∧ kn ≤ 6 := ⟨(a % 6 + 1).toNat, by omega, by omega, by omega⟩
  have CN := Lib.hid (fun W => ptnew_ok W kn 0 hk1 (by omega) (by omega) (by omega))
  have HW := Lib.hid hl
  have HM := Lib.hid hm
  have H50 := Lib.hid h50
  have CS := Lib.hid (fun W t A c Vs (h : TabIs W t 0 A c Vs) (hm : MsAt W Am M) => ptstable_any W t 0 A c Vs h Am cm M hm (by omega))
  have CV := Lib.hid (fun (W : World) (A A' : Option Addr) (c c' : Nat) (L O : List Dt) (hr : MsAt W A L) (ho : MsAt W A' O) (hn : L.length ≤ 9223372036854775807) (hno : O.length ≤ 9223372036854775807) => rcovers17_any W A A' c c' L O hr ho hn hno)
  have CK := Lib.hid (fun W t A c Vs d (h : TabIs W t 0 A c Vs) => ptknown_any W t 0 A c Vs d h)
  have CS2 := Lib.hid (fun (W : World) (A A' : Option Addr) (c c' : Nat) (L : List Dt) (hr : MsAt W A L) (hr' : MsAt W A' L) (hn : L.length ≤ 9223372036854775807) => rsame17_any W W.heap.size W.heap.size A A' c c' L L hr hr' (Nat.le_refl _) (Nat.le_refl _) hn)
  simp only [decide_true] at CS2
  clear hl hm hli h50
  generalize hN : w.heap.size = N at *
  generalize hWn : Ws.length = n at *
  have HWn := Lib.hid hWn
  have HMl := Lib.hid (show M.length ≤ 100 from h100)
  generalize hMn : M.length = mn at *
  have HMn := Lib.hid hMn
  clear hWn hMn
  have g1 : decide (100 < (mn : Int)) = false := by simp; omega
  go_enter Try.func9, Try.ntmps9
  go_wp2_with fail
  refine CL.out.mono ?_; rintro e w1 ⟨rfl, b1⟩
  go_wp2_with fail
  refine (CN.out w1).mono ?_; rintro e w2 ⟨t, A, c, Vs0, rfl, ht, hT, hK, hlo, b2⟩
  have hN1 : N ≤ w1.heap.size := hN ▸ b1.size
  have H2 := Lib.hid (And.intro hT (And.intro hK (And.intro (fun x hx => Nat.le_trans hN1 (hlo x hx)) ((hN ▸ b1 : Below N w w1).trans (below_of_le b2 hN1)))))
  clear hT hK hlo b1 b2 CN CL ht hN1
  have bb := below_alloc_book w2 (.cells #[] 33)
  have HB := Lib.hid (fun k (hk : k ∈ Vs0.map (·.b)) => (show N ≤ k by obtain ⟨x, hx, rfl⟩ := List.mem_map.1 hk; exact H2.out.2.2.1 x hx))
  have H3 := Lib.hid (show PsI w N t A c Ws M kn (Vs0.map (·.b)) 0 Vs0 (some ⟨w2.heap.size, 0, none⟩) [] (w2.alloc (.cells #[] 33)) from
    ⟨H2.out.1.up bb, H2.out.2.1, ⟨rfl, fun h => absurd h (by simp)⟩, rfl, rfl, H2.out.2.2.2.trans (below_of_le bb (hN ▸ H2.out.2.2.2.size))⟩)
  generalize Vs0.map (·.b) = bs at *
  clear bb H2
  go_wp2_with fail
  generalize (w2.alloc (.cells #[] 33)) = W2 at *
  have hl0 : ([] : List Dt).length = 0 := rfl
  go_loopw [10, 11] (fun y i wr => ∃ (j : Nat) (Vs : List Vn) (A0 : Option Addr) (c0 : Nat) (S : List Dt), j ≤ n ∧ i = .int .i64 j ∧ y = .slice A0 S.length c0 ∧ PsI w N t A c Ws M kn bs j Vs A0 S wr) (fun _ i _ => n - (intOf i).toNat)
  case atStart => exact ⟨0, Vs0, some ⟨w2.heap.size, 0, none⟩, 0, [], by omega, rfl, rfl, H3.out⟩
  case round =>
    obtain ⟨j, Vs, A0, c0, S, hj, rfl, rfl, hI⟩ := hrel
    have HI := Lib.hid hI
    clear hI H3
    have hNr : N ≤ wr.heap.size := hN ▸ HI.out.bel.size
    by_cases hlt : j < n
    · obtain ⟨x, hx⟩ : ∃ x, Ws[j]? = some x := ⟨Ws[j]'(by have := HWn.out; omega), List.getElem?_eq_getElem _⟩
      have hWr := HW.out.up (hN ▸ HI.out.bel : Below w.heap.size w wr)
      obtain ⟨b0, o0, hA, hb0, k0, k1⟩ := hWr.at_ hx
      have hbN : b0 < N := by
        obtain ⟨b1, o1, hA1, hlt1, _⟩ := HW.out.at_ hx
        rw [hA] at hA1
        cases hA1
        exact hN ▸ hlt1
      have hxl := H50.out x (List.mem_of_getElem? hx)
      have HX := Lib.hid (And.intro hx (hWr.2 x (List.mem_of_getElem? hx)).at_)
      have CH := Lib.hid (fun W (h : TabIs W t 0 A c Vs) (hr : MsAt W x.A x.L) => ptheard_any W t 0 A c Vs x.dev x.A x.c x.L h hr (by omega))
      have hvl := HI.out.klen
      have HVL := Lib.hid hvl
      have HTK := Lib.hid (hear_take (kn := kn) hx)
      clear hx hWr
      have hsl := HI.out.slen
      generalize hxn : x.L.length = xn at *
      clear hxn
      generalize hSn : S.length = sn at *
      have HSn := Lib.hid hSn
      clear hSn hvl
      subst hA
      go_wp2_with fail
      refine wp_region_held_drew (S := (fun W => W.cell? ⟨b0, o0 + j * 2, none⟩ = some (.int .i64 x.dev) ∧ W.cell? ⟨b0, o0 + j * 2 + 1, none⟩ = some (.slice x.A xn x.c))) (by kernel_rfl) ?_ (fun hHeld => ?_)
      · (try dsimp only); exact ⟨k0, k1⟩
      refine wpAnyH_take (i := 0) (v := ?_) rfl (by kernel_rfl) (by kernel_rfl) (by kernel_rfl) (fun _ _ _ h => h) (Or.inl ⟨by rfl, ?_⟩) (by assumption) ?_
      rotate_left
      first | (focus ((intro w hSw; (try dsimp only at hSw); go_simp); (try with_reducible rfl); done)) | fail
      try simp only [Act.put, List.getElem_toArray, List.getElem_cons_zero, List.setIfInBounds_toArray, List.set_cons_zero, List.set_cons_succ]
      refine wpAnyH_take (i := 1) (v := ?_) rfl (by kernel_rfl) (by kernel_rfl) (by kernel_rfl) (fun _ _ _ h => h) (Or.inl ⟨by rfl, ?_⟩) (by assumption) ?_
      rotate_left
      first | (focus ((intro w hSw; (try dsimp only at hSw); go_simp); (try with_reducible rfl); done)) | fail
      try simp only [Act.put, List.getElem_toArray, List.getElem_cons_zero, List.getElem_cons_succ, List.setIfInBounds_toArray, List.set_cons_zero, List.set_cons_succ]
      refine wpAnyH_take (i := 2) (v := ?_) rfl (by kernel_rfl) (by kernel_rfl) (by kernel_rfl) (fun _ _ _ h => h) (Or.inl ⟨by rfl, ?_⟩) (by assumption) ?_
      rotate_left
      first | (focus ((intro w hSw; (try dsimp only at hSw); go_simp); (try with_reducible rfl); done)) | fail
      try simp only [Act.put, List.getElem_toArray, List.getElem_cons_zero, List.getElem_cons_succ, List.setIfInBounds_toArray, List.set_cons_zero, List.set_cons_succ]
      refine wpAnyH_take (i := 3) (v := ?_) rfl (by kernel_rfl) (by kernel_rfl) (by kernel_rfl) (fun _ _ _ h => h) (Or.inl ⟨by rfl, ?_⟩) (by assumption) ?_
      rotate_left
      first | (focus ((intro w hSw; (try dsimp only at hSw); go_simp); (try with_reducible rfl); done)) | fail
      try simp only [Act.put, List.getElem_toArray, List.getElem_cons_zero, List.getElem_cons_succ, List.setIfInBounds_toArray, List.set_cons_zero, List.set_cons_succ]
      refine wpAnyH_take (i := 4) (v := ?_) rfl (by kernel_rfl) (by kernel_rfl) (by kernel_rfl) (fun _ _ _ h => h) (Or.inl ⟨by rfl, ?_⟩) (by assumption) ?_
      rotate_left
      first | (focus ((intro w hSw; (try dsimp only at hSw); go_simp); (try with_reducible rfl); done)) | fail
      try simp only [Act.put, List.getElem_toArray, List.getElem_cons_zero, List.getElem_cons_succ, List.setIfInBounds_toArray, List.set_cons_zero, List.set_cons_succ]
      refine wpAnyH_take (i := 5) (v := ?_) rfl (by kernel_rfl) (by kernel_rfl) (by kernel_rfl) (fun _ _ _ h => h) (Or.inl ⟨by rfl, ?_⟩) (by assumption) ?_
      rotate_left
      first | (focus ((intro w hSw; (try dsimp only at hSw); go_simp); (try with_reducible rfl); done)) | fail
      try simp only [Act.put, List.getElem_toArray, List.getElem_cons_zero, List.getElem_cons_succ, List.setIfInBounds_toArray, List.set_cons_zero, List.set_cons_succ]
      refine wpAnyH_take (i := 6) (v := ?_) rfl (by kernel_rfl) (by kernel_rfl) (by kernel_rfl) (fun _ _ _ h => h) (Or.inl ⟨by rfl, ?_⟩) (by assumption) ?_
      rotate_left
      first | (focus ((intro w hSw; (try dsimp only at hSw); go_simp); (try with_reducible rfl); done)) | fail
      try simp only [Act.put, List.getElem_toArray, List.getElem_cons_zero, List.getElem_cons_succ, List.setIfInBounds_toArray, List.set_cons_zero, List.set_cons_succ]
      refine wpAnyH_take (i := 7) (v := ?_) rfl (by kernel_rfl) (by kernel_rfl) (by kernel_rfl) (fun _ _ _ h => h) (Or.inl ⟨by rfl, ?_⟩) (by assumption) ?_
      rotate_left
      first | (focus ((intro w hSw; (try dsimp only at hSw); go_simp); (try with_reducible rfl); done)) | fail
      try simp only [Act.put, List.getElem_toArray, List.getElem_cons_zero, List.getElem_cons_succ, List.setIfInBounds_toArray, List.set_cons_zero, List.set_cons_succ]
      refine wpAnyH_take (i := 8) (v := ?_) rfl (by kernel_rfl) (by kernel_rfl) (by kernel_rfl) (fun _ _ _ h => h) (Or.inl ⟨by rfl, ?_⟩) (by assumption) ?_
      rotate_left
      first | (focus ((intro w hSw; (try dsimp only at hSw); go_simp); (try with_reducible rfl); done)) | fail
      try simp only [Act.put, List.getElem_toArray, List.getElem_cons_zero, List.getElem_cons_succ, List.setIfInBounds_toArray, List.set_cons_zero, List.set_cons_succ]
      refine wpAnyH_take (i := 9) (v := ?_) rfl (by kernel_rfl) (by kernel_rfl) (by kernel_rfl) (fun _ _ _ h => h) (Or.inl ⟨by rfl, ?_⟩) (by assumption) ?_
      rotate_left
      first | (focus ((intro w hSw; (try dsimp only at hSw); go_simp); (try with_reducible rfl); done)) | fail
      try simp only [Act.put, List.getElem_toArray, List.getElem_cons_zero, List.getElem_cons_succ, List.setIfInBounds_toArray, List.set_cons_zero, List.set_cons_succ]
      refine wpAnyH_take (i := 10) (v := ?_) rfl (by kernel_rfl) (by kernel_rfl) (by kernel_rfl) (fun _ _ _ h => h) (Or.inl ⟨by rfl, ?_⟩) (by assumption) ?_
      rotate_left
      first | (focus ((intro w hSw; (try dsimp only at hSw); go_simp); (try with_reducible rfl); done)) | fail
      try simp only [Act.put, List.getElem_toArray, List.getElem_cons_zero, List.getElem_cons_succ, List.setIfInBounds_toArray, List.set_cons_zero, List.set_cons_succ]
      refine wpAnyH_ready (rs := [11]) (by kernel_rfl) (by simp) ?_
      refine AllReadyH.cons rfl (fun K hK => ?_) AllReadyH.nil
      go_simp
      refine (CH.out _ HI.out.tab.drew HX.out.2.drew).mono ?_; rintro e w4 ⟨Vs', rfl, hT4, hK4, hb4, ch4⟩
      go_wp2_with fail
      refine hK.out _ _ ?_ (fun hHeld => ?_)
      · (try dsimp only); exact ⟨((ch4.below (B := N) (fun k hk h => by have := HB.out k (HI.out.b ▸ h); omega) hNr).cell (by show b0 < N; exact hbN)).trans hHeld.1, ((ch4.below (B := N) (fun k hk h => by have := HB.out k (HI.out.b ▸ h); omega) hNr).cell (by show b0 < N; exact hbN)).trans hHeld.2⟩
      clear hK K
      try simp only [Act.put, List.getElem_toArray, List.getElem_cons_zero, List.getElem_cons_succ, List.setIfInBounds_toArray, List.set_cons_zero, List.set_cons_succ]
      refine wpAnyH_done (by kernel_rfl) ?_ _
      have hvw4 := hT4.vw
      have hvwI := HI.out.tab.vw
      have hK4' : tabK Vs' = hearAll 0 (List.replicate kn []) ((Ws.take (j + 1)).map wdP) := by rw [hK4, HTK.out, HI.out.k]
      have hlen4 : (tabK Vs').length = kn := by rw [hK4', hearAll_len, List.length_replicate]
      have hcov1 : rcov M (stabL 0 (tabK Vs') M (chkE M)) = true := stab_cov hvw4
      have hcov2 : rcov (stabL 0 (tabK Vs') M (chkE M)) S = true := by
        rw [HI.out.s]
        split
        · rfl
        · rw [hK4]
          exact stab_later hvwI _ _
      have hcov3 : ∀ d : Nat, 1 ≤ d → d < kn → rcov (knownL 0 (tabK Vs') (d : Int)) (stabL 0 (tabK Vs') M (chkE M)) = true := fun d h1 h2 => stab_known hvw4 (by omega) (by omega)
      have hkl : ∀ d : Int, (knownL 0 (tabK Vs') d).length ≤ 67108928 := fun d => by
        unfold knownL
        split
        · exact (hvw4.get _).len
        · simp
      have bel4 : Below N w w4 := HI.out.bel.drew.trans (ch4.below (fun k hk h => by have := HB.out k (HI.out.b ▸ h); omega) hNr)
      have ms4 : MsAt w4 A0 S := HI.out.tab.drew.keepMs (HI.out.last.up (Below.drew (Below.refl _ _))) ch4
      have hsl' : (stabL 0 (tabK Vs') M (chkE M)).length ≤ 67108928 := (stabL_vw rfl).len
      have CS4 := Lib.hid (CS.out w4 t A c Vs' hT4 (HM.out.up (hN ▸ bel4)))
      have HK := Lib.hid (fun W (h : TabIs W t 0 A c Vs') d => CK.out W t A c Vs' d h)
      have HP := Lib.hid (fun W A5 (h1 : TabIs W t 0 A c Vs') (h2 : MsAt W A5 (stabL 0 (tabK Vs') M (chkE M))) (h3 : Below N w W) => (show PsI w N t A c Ws M kn bs (j + 1) Vs' A5 (stabL 0 (tabK Vs') M (chkE M)) W from ⟨h1, hK4', h2, rfl, by rw [hb4]; exact HI.out.b, h3⟩))
      generalize stabL 0 (tabK Vs') M (chkE M) = S' at *
      have H4 := Lib.hid (And.intro hT4 (And.intro bel4 ms4))
      have HC := Lib.hid (And.intro hcov1 (And.intro hcov2 (And.intro hcov3 hkl)))
      have hz4 : N ≤ w4.heap.size := hN ▸ bel4.size
      clear hvw4 hvwI hK4' hlen4 hcov1 hcov2 hcov3 hkl bel4 ms4 hT4 hK4 hb4 ch4 hHeld
      generalize hsn' : S'.length = sn' at *
      have HSn' := Lib.hid hsn'
      clear hsn'
      go_wp2_with fail
      refine CS4.out.mono ?_; rintro e w5 ⟨A5, c5, he, m5, b5⟩
      rw [HSn'.out] at he
      subst he
      have H5 := Lib.hid (And.intro (H4.out.1.up b5) (And.intro (H4.out.2.1.trans (below_of_le b5 hz4)) (And.intro (H4.out.2.2.up b5) m5)))
      have hz5 : N ≤ w5.heap.size := Nat.le_trans hz4 b5.size
      clear m5 b5 H4 CS4
      have C1 := CV.out w5 Am A5 cm c5 M S' (HM.out.up (hN ▸ H5.out.2.1)) H5.out.2.2.2 (by rw [HMn.out]; omega) (by rw [HSn'.out]; omega)
      rw [HMn.out, HSn'.out, HC.out.1] at C1
      have C1' := Lib.hid C1
      clear C1
      go_wp2_with fail
      refine C1'.out.mono ?_; rintro e w6 ⟨rfl, b6⟩
      have H6 := Lib.hid (And.intro (H5.out.1.up b6) (And.intro (H5.out.2.1.trans (below_of_le b6 hz5)) (And.intro (H5.out.2.2.1.up b6) (H5.out.2.2.2.up b6))))
      have hz6 : N ≤ w6.heap.size := Nat.le_trans hz5 b6.size
      clear b6 H5 C1'
      have C2 := CV.out w6 A5 A0 c5 c0 S' S H6.out.2.2.2 H6.out.2.2.1 (by rw [HSn'.out]; omega) (by rw [HSn.out]; omega)
      rw [HSn.out, HSn'.out, HC.out.2.1] at C2
      have C2' := Lib.hid C2
      clear C2
      go_wp2_with fail
      refine C2'.out.mono ?_; rintro e w7 ⟨rfl, b7⟩
      have H7 := Lib.hid (HP.out w7 A5 (H6.out.1.up b7) (H6.out.2.2.2.up b7) (H6.out.2.1.trans (below_of_le b7 hz6)))
      clear b7 H6 C2' HP
      go_wp2_with fail
      go_loopw [13] (fun y wi => ∃ d : Nat, 1 ≤ d ∧ d ≤ kn ∧ y = .int .i64 d ∧ PsI w N t A c Ws M kn bs (j + 1) Vs' A5 S' wi) (fun y _ => kn - (intOf y).toNat)
      case atStart => exact ⟨1, by omega, hk1, rfl, H7.out⟩
      case round =>
        obtain ⟨d, hd1, hd2, rfl, hP⟩ := hrel
        have HPd := Lib.hid hP
        clear hP
        by_cases hdk : d < kn
        · have CKd := Lib.hid (HK.out wr HPd.out.tab (d : Int))
          have hkl := HC.out.2.2.2 (d : Int)
          have hc3 := HC.out.2.2.1 d hd1 hdk
          generalize knownL 0 (tabK Vs') (d : Int) = L8 at *
          have HC8 := Lib.hid (And.intro hkl hc3)
          clear hkl hc3
          generalize hl8 : L8.length = l8 at *
          have HL8 := Lib.hid hl8
          clear hl8
          have hNi : N ≤ wr.heap.size := hN ▸ HPd.out.bel.size
          go_wp2_with fail
          refine CKd.out.mono ?_; rintro e w8 ⟨A8, c8, he, m8, b8⟩
          rw [HL8.out] at he
          subst he
          have H8 := Lib.hid (And.intro (HPd.out.up hN b8) m8)
          clear m8 b8 CKd HPd
          have C3 := CV.out w8 A8 A5 c8 c5 L8 S' H8.out.2 H8.out.1.last (by rw [HL8.out]; have := HC8.out.1; omega) (by rw [HSn'.out]; omega)
          rw [HL8.out, HSn'.out, HC8.out.2] at C3
          have C3' := Lib.hid C3
          clear C3
          go_wp2_with fail
          refine C3'.out.mono ?_; rintro e w9 ⟨rfl, b9⟩
          have H9 := Lib.hid (H8.out.1.up hN b9)
          clear b9 H8 C3'
          go_wp2
          go_roundw
          case rel => exact ⟨d + 1, by omega, by omega, by go_num, H9.out⟩
          case measure => simp [intOf]; omega
        · have hd' : d = kn := by omega
          subst hd'
          go_wp2
          go_roundw
          case rel => exact ⟨j + 1, Vs', A5, c5, S', by omega, by go_num, by rw [HSn'.out], HPd.out⟩
          case measure => simp [intOf]; omega
    · have hj' : j = n := by omega
      subst hj'
      have htk : Ws.take j = Ws := List.take_of_length_le (by have := HWn.out; omega)
      have HTK := Lib.hid htk
      clear htk
      have hsl := HI.out.slen
      generalize hSn : S.length = sn at *
      have HSn := Lib.hid hSn
      clear hSn
      go_wp2_with fail
      go_loopw [14] (fun y wi => ∃ (q : Nat) (V : List Vn), q ≤ j ∧ y = .int .i64 q ∧ PsI w N t A c Ws M kn bs j V A0 S wi) (fun y _ => j - (intOf y).toNat)
      case atStart => exact ⟨0, Vs, by omega, rfl, HI.out⟩
      case round =>
        obtain ⟨q, V, hq, rfl, hP⟩ := hrel
        have HPq := Lib.hid hP
        clear hP HI
        have hNr : N ≤ wr.heap.size := hN ▸ HPq.out.bel.size
        by_cases hlt : q < j
        · obtain ⟨x, hx⟩ : ∃ x, Ws[q]? = some x := ⟨Ws[q]'(by have := HWn.out; omega), List.getElem?_eq_getElem _⟩
          have hWr := HW.out.up (hN ▸ HPq.out.bel : Below w.heap.size w wr)
          obtain ⟨b0, o0, hA, hb0, k0, k1⟩ := hWr.at_ hx
          have hbN : b0 < N := by
            obtain ⟨b1, o1, hA1, hlt1, _⟩ := HW.out.at_ hx
            rw [hA] at hA1
            cases hA1
            exact hN ▸ hlt1
          have hxl := H50.out x (List.mem_of_getElem? hx)
          have HX := Lib.hid (hWr.2 x (List.mem_of_getElem? hx)).at_
          have CH := Lib.hid (fun W (h : TabIs W t 0 A c V) (hr : MsAt W x.A x.L) => ptheard_any W t 0 A c V x.dev x.A x.c x.L h hr (by omega))
          have hagain : heardK 0 (tabK V) x.dev x.L (chkE x.L) = tabK V := by
            have := HPq.out.k
            rw [HTK.out] at this
            rw [this]
            exact hear_again (KVw.zero kn) 0 (Ws.map wdP) (x := wdP x) (List.mem_map.2 ⟨x, List.mem_of_getElem? hx, rfl⟩)
          have HAG := Lib.hid hagain
          clear hx hWr hagain
          generalize hxn : x.L.length = xn at *
          clear hxn
          subst hA
          go_wp2_with fail
          refine wp_region_held_drew (S := (fun W => W.cell? ⟨b0, o0 + q * 2, none⟩ = some (.int .i64 x.dev) ∧ W.cell? ⟨b0, o0 + q * 2 + 1, none⟩ = some (.slice x.A xn x.c))) (by kernel_rfl) ?_ (fun hHeld => ?_)
          · (try dsimp only); exact ⟨k0, k1⟩
          refine wpAnyH_take (i := 0) (v := ?_) rfl (by kernel_rfl) (by kernel_rfl) (by kernel_rfl) (fun _ _ _ h => h) (Or.inl ⟨by rfl, ?_⟩) (by assumption) ?_
          rotate_left
          first | (focus ((intro w hSw; (try dsimp only at hSw); go_simp); (try with_reducible rfl); done)) | fail
          try simp only [Act.put, List.getElem_toArray, List.getElem_cons_zero, List.setIfInBounds_toArray, List.set_cons_zero, List.set_cons_succ]
          refine wpAnyH_take (i := 1) (v := ?_) rfl (by kernel_rfl) (by kernel_rfl) (by kernel_rfl) (fun _ _ _ h => h) (Or.inl ⟨by rfl, ?_⟩) (by assumption) ?_
          rotate_left
          first | (focus ((intro w hSw; (try dsimp only at hSw); go_simp); (try with_reducible rfl); done)) | fail
          try simp only [Act.put, List.getElem_toArray, List.getElem_cons_zero, List.getElem_cons_succ, List.setIfInBounds_toArray, List.set_cons_zero, List.set_cons_succ]
          refine wpAnyH_take (i := 2) (v := ?_) rfl (by kernel_rfl) (by kernel_rfl) (by kernel_rfl) (fun _ _ _ h => h) (Or.inl ⟨by rfl, ?_⟩) (by assumption) ?_
          rotate_left
          first | (focus ((intro w hSw; (try dsimp only at hSw); go_simp); (try with_reducible rfl); done)) | fail
          try simp only [Act.put, List.getElem_toArray, List.getElem_cons_zero, List.getElem_cons_succ, List.setIfInBounds_toArray, List.set_cons_zero, List.set_cons_succ]
          refine wpAnyH_take (i := 3) (v := ?_) rfl (by kernel_rfl) (by kernel_rfl) (by kernel_rfl) (fun _ _ _ h => h) (Or.inl ⟨by rfl, ?_⟩) (by assumption) ?_
          rotate_left
          first | (focus ((intro w hSw; (try dsimp only at hSw); go_simp); (try with_reducible rfl); done)) | fail
          try simp only [Act.put, List.getElem_toArray, List.getElem_cons_zero, List.getElem_cons_succ, List.setIfInBounds_toArray, List.set_cons_zero, List.set_cons_succ]
          refine wpAnyH_take (i := 4) (v := ?_) rfl (by kernel_rfl) (by kernel_rfl) (by kernel_rfl) (fun _ _ _ h => h) (Or.inl ⟨by rfl, ?_⟩) (by assumption) ?_
          rotate_left
          first | (focus ((intro w hSw; (try dsimp only at hSw); go_simp); (try with_reducible rfl); done)) | fail
          try simp only [Act.put, List.getElem_toArray, List.getElem_cons_zero, List.getElem_cons_succ, List.setIfInBounds_toArray, List.set_cons_zero, List.set_cons_succ]
          refine wpAnyH_take (i := 5) (v := ?_) rfl (by kernel_rfl) (by kernel_rfl) (by kernel_rfl) (fun _ _ _ h => h) (Or.inl ⟨by rfl, ?_⟩) (by assumption) ?_
          rotate_left
          first | (focus ((intro w hSw; (try dsimp only at hSw); go_simp); (try with_reducible rfl); done)) | fail
          try simp only [Act.put, List.getElem_toArray, List.getElem_cons_zero, List.getElem_cons_succ, List.setIfInBounds_toArray, List.set_cons_zero, List.set_cons_succ]
          refine wpAnyH_take (i := 6) (v := ?_) rfl (by kernel_rfl) (by kernel_rfl) (by kernel_rfl) (fun _ _ _ h => h) (Or.inl ⟨by rfl, ?_⟩) (by assumption) ?_
          rotate_left
          first | (focus ((intro w hSw; (try dsimp only at hSw); go_simp); (try with_reducible rfl); done)) | fail
          try simp only [Act.put, List.getElem_toArray, List.getElem_cons_zero, List.getElem_cons_succ, List.setIfInBounds_toArray, List.set_cons_zero, List.set_cons_succ]
          refine wpAnyH_take (i := 7) (v := ?_) rfl (by kernel_rfl) (by kernel_rfl) (by kernel_rfl) (fun _ _ _ h => h) (Or.inl ⟨by rfl, ?_⟩) (by assumption) ?_
          rotate_left
          first | (focus ((intro w hSw; (try dsimp only at hSw); go_simp); (try with_reducible rfl); done)) | fail
          try simp only [Act.put, List.getElem_toArray, List.getElem_cons_zero, List.getElem_cons_succ, List.setIfInBounds_toArray, List.set_cons_zero, List.set_cons_succ]
          refine wpAnyH_take (i := 8) (v := ?_) rfl (by kernel_rfl) (by kernel_rfl) (by kernel_rfl) (fun _ _ _ h => h) (Or.inl ⟨by rfl, ?_⟩) (by assumption) ?_
          rotate_left
          first | (focus ((intro w hSw; (try dsimp only at hSw); go_simp); (try with_reducible rfl); done)) | fail
          try simp only [Act.put, List.getElem_toArray, List.getElem_cons_zero, List.getElem_cons_succ, List.setIfInBounds_toArray, List.set_cons_zero, List.set_cons_succ]
          refine wpAnyH_take (i := 9) (v := ?_) rfl (by kernel_rfl) (by kernel_rfl) (by kernel_rfl) (fun _ _ _ h => h) (Or.inl ⟨by rfl, ?_⟩) (by assumption) ?_
          rotate_left
          first | (focus ((intro w hSw; (try dsimp only at hSw); go_simp); (try with_reducible rfl); done)) | fail
          try simp only [Act.put, List.getElem_toArray, List.getElem_cons_zero, List.getElem_cons_succ, List.setIfInBounds_toArray, List.set_cons_zero, List.set_cons_succ]
          refine wpAnyH_take (i := 10) (v := ?_) rfl (by kernel_rfl) (by kernel_rfl) (by kernel_rfl) (fun _ _ _ h => h) (Or.inl ⟨by rfl, ?_⟩) (by assumption) ?_
          rotate_left
          first | (focus ((intro w hSw; (try dsimp only at hSw); go_simp); (try with_reducible rfl); done)) | fail
          try simp only [Act.put, List.getElem_toArray, List.getElem_cons_zero, List.getElem_cons_succ, List.setIfInBounds_toArray, List.set_cons_zero, List.set_cons_succ]
          refine wpAnyH_ready (rs := [11]) (by kernel_rfl) (by simp) ?_
          refine AllReadyH.cons rfl (fun K hK => ?_) AllReadyH.nil
          go_simp
          refine (CH.out _ HPq.out.tab.drew HX.out.drew).mono ?_; rintro e w4 ⟨Vs', rfl, hT4, hK4, hb4, ch4⟩
          go_wp2_with fail
          refine hK.out _ _ ?_ (fun hHeld => ?_)
          · (try dsimp only); exact ⟨((ch4.below (B := N) (fun k hk h => by have := HB.out k (HPq.out.b ▸ h); omega) hNr).cell (by show b0 < N; exact hbN)).trans hHeld.1, ((ch4.below (B := N) (fun k hk h => by have := HB.out k (HPq.out.b ▸ h); omega) hNr).cell (by show b0 < N; exact hbN)).trans hHeld.2⟩
          clear hK K
          try simp only [Act.put, List.getElem_toArray, List.getElem_cons_zero, List.getElem_cons_succ, List.setIfInBounds_toArray, List.set_cons_zero, List.set_cons_succ]
          refine wpAnyH_done (by kernel_rfl) ?_ _
          have bel4 : Below N w w4 := HPq.out.bel.drew.trans (ch4.below (fun k hk h => by have := HB.out k (HPq.out.b ▸ h); omega) hNr)
          have ms4 : MsAt w4 A0 S := HPq.out.tab.drew.keepMs (HPq.out.last.up (Below.drew (Below.refl _ _))) ch4
          have H4 := Lib.hid (show PsI w N t A c Ws M kn bs j Vs' A0 S w4 from ⟨hT4, by rw [hK4, HAG.out]; exact HPq.out.k, ms4, by rw [hK4, HAG.out]; exact HPq.out.s, by rw [hb4]; exact HPq.out.b, bel4⟩)
          clear hT4 hK4 hb4 ch4 bel4 ms4 hHeld
          go_wp2
          go_roundw
          case rel => exact ⟨q + 1, Vs', by omega, by go_num, H4.out⟩
          case measure => simp [intOf]; omega
        · have hq' : q = j := by omega
          subst hq'
          by_cases h0 : q = 0
          · subst h0
            go_wp2_with fail
            refine (C9.out _).mono ?_; rintro e w8 ⟨rfl, b8⟩
            have H8 := Lib.hid (HPq.out.bel.trans (below_of_le b8 hNr))
            clear b8
            go_wp2
            go_ret
            exact ⟨rfl, H8.out⟩
          · have hz : ((q : Int) == 0) = false := by simp; omega
            have hs : stabL 0 (tabK V) M (chkE M) = S := by
              have := HPq.out.s
              rw [if_neg h0] at this
              exact this.symm
            have CSq := CS.out wr t A c V HPq.out.tab (HM.out.up (hN ▸ HPq.out.bel))
            rw [hs] at CSq
            have CSq' := Lib.hid CSq
            clear CSq hs
            go_wp2_with fail
            refine CSq'.out.mono ?_; rintro e w8 ⟨A8, c8, he, m8, b8⟩
            rw [HSn.out] at he
            subst he
            have H8 := Lib.hid (And.intro (HPq.out.up hN b8) m8)
            clear m8 b8 CSq'
            have CC := CS2.out w8 A8 A0 c8 c0 S H8.out.2 H8.out.1.last (by rw [HSn.out]; omega)
            rw [HSn.out] at CC
            have CC' := Lib.hid CC
            clear CC
            go_wp2_with fail
            refine CC'.out.mono ?_; rintro e w9 ⟨rfl, b9⟩
            have H9 := Lib.hid (H8.out.1.up hN b9)
            clear b9 H8 CC'
            go_wp2_with fail
            refine (C9.out _).mono ?_; rintro e wa ⟨rfl, ba⟩
            have HA := Lib.hid (H9.out.bel.trans (below_of_le ba (hN ▸ H9.out.bel.size)))
            clear ba
            go_wp2
            go_ret
            exact ⟨rfl, HA.out⟩
theorem peersStable_law (w : World) {a : Int} {vl vm : Value} (wa : (Lit.int .u8 a).wf = true) (hl : IsWords w vl) (hm : IsRecs 3 w vm) :
    Calls Try.prog 9 #[.int .u8 a, vl, vm] w fun e w' => e = .returned (.bool true) ∧ Below w.heap.size w w' := by
  obtain ⟨Al, cl, Ws, rfl, hlc, hcl, hWs⟩ := hl
  obtain ⟨Am, cm, M, rfl, hmc, hcm, hM, hok⟩ := recs_list hm
  obtain ⟨f, f'⟩ := bounds_u8 wa
  have hmx : maxLen ≤ 9223372036854775807 := by decide
  by_cases hli : lightB Ws = true
  · by_cases h100 : M.length ≤ 100
    · exact peersStable_in w Al cl Ws Am cm M a ⟨by omega, by omega⟩ hWs hM hli h100
    · have C9 := Lib.hid awake36_any
      have CL := Lib.hid (light36_any w Al cl Ws hWs (by omega))
      rw [hli] at CL
      have hmm : M.length ≤ 9223372036854775807 := by omega
      generalize M.length = mn at *
      generalize Ws.length = n at *
      have g1 : decide (100 < (mn : Int)) = true := by simp; omega
      clear hWs hM hok hm hli
      generalize hN : w.heap.size = N at *
      go_enter Try.func9, Try.ntmps9
      go_wp2_with fail
      refine CL.out.mono ?_; rintro e w1 ⟨rfl, b1⟩
      go_wp2_with fail
      refine (C9.out _).mono ?_; rintro e w2 ⟨rfl, b2⟩
      have B := Lib.hid (b1.trans (below_of_le b2 (by have := b1.size; omega)))
      clear b1 b2
      go_wp2
      go_ret
      exact ⟨rfl, B.out⟩
  · have C9 := Lib.hid awake36_any
    have CL := Lib.hid (light36_any w Al cl Ws hWs (by omega))
    rw [Bool.not_eq_true] at hli
    rw [hli] at CL
    have hmm : M.length ≤ 9223372036854775807 := by omega
    generalize M.length = mn at *
    generalize Ws.length = n at *
    clear hWs hM hok hm hli
    generalize hN : w.heap.size = N at *
    go_enter Try.func9, Try.ntmps9
    go_wp2_with fail
    refine CL.out.mono ?_; rintro e w1 ⟨rfl, b1⟩
    go_wp2_with fail
    refine (C9.out _).mono ?_; rintro e w2 ⟨rfl, b2⟩
    have B := Lib.hid (b1.trans (below_of_le b2 (by have := b1.size; omega)))
    clear b1 b2
    go_wp2
    go_ret
    exact ⟨rfl, B.out⟩
end Go.Proofs.Ytailbppddnegoaa
