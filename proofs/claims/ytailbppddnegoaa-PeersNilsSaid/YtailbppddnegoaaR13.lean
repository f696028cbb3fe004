/- Layer 36 (peers): the walk of the law PeersNils. -/
import Derived.Test.YtailbppddnegoaaR8
namespace Go.Proofs.Ytailbppddnegoaa
open Go.RowKit Go.Shelf
set_option linter.unusedVariables false
set_option linter.unusedSimpArgs false
set_option maxRecDepth 100000
attribute [local go_sem] Oper.semAt_some
attribute [local go_sem ↓] Go.wp_at_zero Go.wp_at_succ

theorem ptall_niliter (n : Nat) : IterM n Try.prog 70 #[.pointer none] (fun x : Int => #[.int .i64 x]) (fun _ => True) (0 : Nat) (fun _ _ _ => False) (fun s => s = 0) (fun _ _ => False) := by
  intro l J Jx W hJ hJx hT hsk hY h0
  have H0 := Lib.hid h0
  clear hJ hJx hT hsk hY h0
  refine callsIn_of_wp Try.func70 rfl trivial ?_ rfl
  simp only [Try.ntmps70, List.size_toArray, List.length_cons, List.length_nil, Nat.reduceAdd, Nat.reduceSub, Array.replicate_succ, Array.replicate_zero, List.push_toArray, List.append_toArray, List.nil_append, List.cons_append]
  gi_wp2
  refine bodyPost_ret (results_none rfl _ _ _) rfl ?_
  exact ⟨⟨_, rfl⟩, .inl ⟨0, rfl, H0.out⟩⟩
theorem ptothers_nil (w : World) : Calls Try.prog 65 #[.pointer none] w fun e w' => e = .returned (.slice none 0 0) ∧ Below w.heap.size w w' := by
  refine (callsIn_wide (n := 9)).1 ?_
  generalize hN : w.heap.size = N at *
  refine callsIn_of_wp_marks Try.func65 rfl trivial ?_ rfl
  simp only [Try.ntmps65, List.size_toArray, List.length_cons, List.length_nil, Nat.reduceAdd, Nat.reduceSub, Array.replicate_succ, Array.replicate_zero, List.push_toArray, List.append_toArray, List.nil_append, List.cons_append]
  gi_wp2
  have H0 := Lib.hid (show Whole (w.alloc (.cells #[.slice none 0 0] 94)) N 94 #[.slice none 0 0] ∧ Below N w (w.alloc (.cells #[.slice none 0 0] 94)) from by
    refine ⟨?_, (Below.refl N w).alloc (by omega) _⟩
    have := Whole.new w 94 #[.slice none 0 0]
    rw [hN] at this
    exact this)
  have hsz : N < (w.alloc (.cells #[.slice none 0 0] 94)).heap.size := by simp; omega
  generalize (w.alloc (.cells #[.slice none 0 0] 94)) = W0 at *
  refine wp_rangeM (gf := 70) (fst := #[.pointer none]) rfl (enters_of Try.func70 (by kernel_rfl) rfl)
    (ptall_niliter _) (fun _ => rfl) (fun _ W => Whole W N 94 #[.slice none 0 0] ∧ Below N w W) (fun _ _ => False)
    ⟨fun s W W' h b => ⟨h.1.below b h.1.lt, h.2.trans (below_of_le b (hN ▸ h.2.size))⟩, fun s W k o o' h hk hh hb => ⟨h.1.putBook hh hb, below_putBook h.2 (by omega)⟩⟩ ⟨fun _ _ _ h => h.elim, fun _ _ _ _ _ h => h.elim⟩ (fun _ _ _ => trivial)
    (fun _ _ _ hs _ => hs.elim) H0.out
    (fun x => { tmps := #[.pointer none, undef, .slice none 0 0, .pointer (some ⟨N, 0, none⟩), .int .i64 x, .pointer none, .func (.func 70) #[.pointer none] #[], .int .i64 x, undef, undef, undef, undef, undef], defers := [] }) ?assign ?body ?done ?stop
  case assign =>
    intro l x W K hK
    gi_wp2
    exact hK
  case body =>
    rintro l s x s' W h _
    exact h.elim
  case done =>
    rintro D s W hD rfl ⟨h1, h2⟩ hK
    have hc : W.cell? ⟨N, 0, none⟩ = some (.slice none 0 0) := by rw [h1.cell]; rfl
    gi_wp2
    refine ⟨by simp, .inl ⟨_, _, rfl, run_takeDeferred hK, ?_⟩⟩
    exact ⟨_, results_tmp rfl _ _ _, rfl, below_putBook h2 (by omega)⟩
  case stop =>
    rintro D W _ h _
    exact h.elim
theorem clos36_any (w : World) (d : Int) (B1 B2 : Nat) (m mv : Int) (h1 : Whole w B1 3 #[.int .i64 m]) (h2 : Whole w B2 5 #[.int .u8 mv]) (hm : 0 ≤ m ∧ m ≤ 100) (hv : 0 ≤ mv ∧ mv ≤ 255) :
    Calls Try.prog 71 #[.int .i64 d, .pointer (some ⟨B1, 0, none⟩), .pointer (some ⟨B2, 0, none⟩)] w fun e w' => e = .returned (.bool (decide (m < mv % 8))) ∧ w' = w.setCell ⟨B1, 0, none⟩ (.int .i64 (m + 1)) := by
  have c1 := h1.cell 0
  change _ = some (Value.int .i64 m) at c1
  have f1 := h1.free 0
  have hne : B2 ≠ B1 := h2.ne_ h1 (by decide)
  have c1' := (h1.set_ 0 (.int .i64 (m + 1))).cell 0
  change _ = some (Value.int .i64 (m + 1)) at c1'
  have c2' := (h2.far (p := ⟨B1, 0, none⟩) hne (.int .i64 (m + 1))).cell 0
  change _ = some (Value.int .u8 mv) at c2'
  clear h1 h2 hne
  go_enter Try.func71, Try.ntmps71
  go_wp2
  go_ret
  exact ⟨rfl, rfl⟩
/-- How many devices are met among the first s others (the own one is 0). -/
def metN (s : Nat) : Nat := s - 1
set_option maxHeartbeats 1000000 in
theorem ptall_clos (w1 w : World) (t : Nat) (A : Option Addr) (c n : Nat) (Vs : List Vn) (B1 B2 : Nat) (mv : Int) (h : TabIs w1 t 0 A c Vs) (hvl : Vs.length = n) (hn1 : 1 ≤ n) (hn64 : n ≤ 64) (hb : Below w1.heap.size w1 w) (hB1 : w1.heap.size ≤ B1) (h1 : Whole w B1 3 #[.int .i64 0]) (h2 : Whole w B2 5 #[.int .u8 mv]) (hv : 0 ≤ mv ∧ mv ≤ 255) :
    Calls Try.prog 70 #[.pointer (some ⟨t, 0, none⟩), .func (.func 71) #[] #[.pointer (some ⟨B1, 0, none⟩), .pointer (some ⟨B2, 0, none⟩)]] w fun e w' =>
      e = .returned (.tuple #[]) ∧ Whole w' B1 3 #[.int .i64 (min ((n : Int) - 1) (mv % 8 + 1))] ∧ Ch (fun k => k = B1) w w' := by
  have hT0 := h.up hb
  have c1 := hT0.c1
  have hne : B2 ≠ B1 := h2.ne_ h1 (by decide)
  have HB := Lib.hid (And.intro hb hB1)
  have CO := Lib.hid (fun W d (hW : Below w1.heap.size w1 W) => (ptother_any W t 0 A c Vs d (h.up hW)).mono (fun e w' h' => show e = .returned (.bool (othB 0 n d)) ∧ Below W.heap.size W w' from by rw [hvl] at h'; exact h'))
  have CC := Lib.hid (fun W d m (h1 : Whole W B1 3 #[.int .i64 m]) (h2 : Whole W B2 5 #[.int .u8 mv]) (hm : 0 ≤ m ∧ m ≤ 100) => clos36_any W d B1 B2 m mv h1 h2 hm hv)
  rw [hvl] at c1
  have H0 := Lib.hid (And.intro h1 (And.intro h2 (Ch.refl (fun k => k = B1) w)))
  generalize hkk : mv % 8 = kk at *
  have hk0 : 0 ≤ kk ∧ kk ≤ 7 := by omega
  clear hT0 h hb hB1 h1 h2 hkk hv
  go_enter Try.func70, Try.ntmps70
  go_wp2_with fail
  go_loopw [12] (fun p wr => ∃ s : Nat, s ≤ n ∧ p = .int .i64 s ∧ Whole wr B1 3 #[.int .i64 (metN s : Int)] ∧ Whole wr B2 5 #[.int .u8 mv] ∧ Ch (fun k => k = B1) w wr ∧ ((metN s : Int) ≤ kk)) (fun p _ => n - (intOf p).toNat)
  case atStart => exact ⟨0, by omega, rfl, H0.out.1, H0.out.2.1, H0.out.2.2, by simp [metN]; omega⟩
  case round =>
    obtain ⟨s, hs, rfl, hW1, hW2, hch, hmk⟩ := hrel
    have HI := Lib.hid (And.intro hW1 (And.intro hW2 hch))
    have hbel : Below w1.heap.size w1 wr := HB.out.1.trans (hch.below (fun k hk e => by have := HB.out.2; omega) HB.out.1.size)
    have COs := Lib.hid (CO.out wr (s : Int) hbel)
    clear hW1 hW2 hch hbel H0
    by_cases hlt : s < n
    · by_cases h0 : s = 0
      · subst h0
        have hz : othB 0 n ((0 : Nat) : Int) = false := by unfold othB; simp
        rw [hz] at COs
        clear hz
        go_wp2_with fail
        refine COs.out.mono ?_; rintro e w2 ⟨rfl, b2⟩
        have H2 := Lib.hid (And.intro (HI.out.1.below b2 HI.out.1.lt) (And.intro (HI.out.2.1.below b2 HI.out.2.1.lt) (HI.out.2.2.trans (below_ch b2 : Ch (fun k => k = B1) wr w2) (fun k _ h => h))))
        clear b2 COs HI
        go_wp2
        go_roundw
        case rel => exact ⟨1, by omega, by go_num, H2.out.1, H2.out.2.1, H2.out.2.2, by simp [metN]; omega⟩
        case measure => simp [intOf]; omega
      · have hz : othB 0 n (s : Int) = true := by unfold othB; simp [hlt, h0]
        rw [hz] at COs
        clear hz
        have hme : metN (s + 1) = metN s + 1 := by unfold metN; omega
        have hmb : metN s ≤ 64 := by unfold metN; omega
        go_wp2_with fail
        refine COs.out.mono ?_; rintro e w2 ⟨rfl, b2⟩
        have H2 := Lib.hid (And.intro (HI.out.1.below b2 HI.out.1.lt) (And.intro (HI.out.2.1.below b2 HI.out.2.1.lt) (HI.out.2.2.trans (below_ch b2 : Ch (fun k => k = B1) wr w2) (fun k _ h => h))))
        clear b2 COs HI
        go_wp2_with fail
        refine (CC.out w2 (s : Int) (metN s : Int) H2.out.1 H2.out.2.1 (by omega)).mono ?_; rintro e w3 ⟨rfl, rfl⟩
        have H3 := Lib.hid (show Whole (w2.setCell ⟨B1, 0, none⟩ (.int .i64 ((metN s : Int) + 1))) B1 3 #[.int .i64 ((metN s : Int) + 1)] ∧ Whole (w2.setCell ⟨B1, 0, none⟩ (.int .i64 ((metN s : Int) + 1))) B2 5 #[.int .u8 mv] ∧ Ch (fun k => k = B1) w (w2.setCell ⟨B1, 0, none⟩ (.int .i64 ((metN s : Int) + 1))) from
          ⟨H2.out.1.set_ 0 _, H2.out.2.1.far hne _, H2.out.2.2.trans (Ch.set_ w2 ⟨B1, 0, none⟩ _) (fun k _ h => h)⟩)
        generalize (w2.setCell ⟨B1, 0, none⟩ (.int .i64 ((metN s : Int) + 1))) = w3 at *
        clear H2
        by_cases hgo : (metN s : Int) < kk
        · go_wp2
          exact ⟨⟨s + 1, by omega, by go_num, by rw [hme, Int.natCast_add]; exact H3.out.1, H3.out.2.1, H3.out.2.2, by rw [hme]; omega⟩, by simp [intOf]; omega⟩
        · have hmin : min ((n : Int) - 1) (kk + 1) = (metN s : Int) + 1 := by unfold metN at *; omega
          have HM := Lib.hid hmin
          have hgo' : kk ≤ (metN s : Int) := by omega
          have hgo2 : decide ((metN s : Int) < kk) = false := decide_eq_false hgo
          clear hmin
          go_wp2
          refine bodyPost_ret (results_none rfl _ _ _) rfl ?_
          exact ⟨rfl, by rw [HM.out]; exact H3.out.1, H3.out.2.2⟩
    · have hs' : s = n := by omega
      subst hs'
      have hmin : min ((s : Int) - 1) (kk + 1) = (metN s : Int) := by unfold metN at *; omega
      have HM := Lib.hid hmin
      clear hmin COs
      go_wp2
      go_end0
      exact ⟨rfl, by rw [HM.out]; exact HI.out.1, HI.out.2.2⟩
end Go.Proofs.Ytailbppddnegoaa
