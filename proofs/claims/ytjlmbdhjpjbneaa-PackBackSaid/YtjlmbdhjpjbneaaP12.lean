/- Layer 5 (pack): the walk of the law PackBack. -/
import Derived.Test.YtjlmbdhjpjbneaaP11
import Derived.Test.YtjlmbdhjpjbneaaP8
namespace Go.Proofs.Ytjlmbdhjpjbneaa
open Go.RowKit
set_option linter.unusedVariables false
set_option maxRecDepth 100000

/-- Parts packed, one behind the other: k of them from i on. -/
def pcat (f : Nat → Pt) : Nat → Nat → List UInt8
  | 0, _ => []
  | k + 1, i => ptP (f i) ++ pcat f k (i + 1)
theorem pcat_snoc (f : Nat → Pt) : ∀ k i, pcat f (k + 1) i = pcat f k i ++ ptP (f (i + k))
  | 0, i => by simp [pcat]
  | k + 1, i => by
    have ih := pcat_snoc f k (i + 1)
    have e : pcat f (k + 1 + 1) i = ptP (f i) ++ pcat f (k + 1) (i + 1) := rfl
    rw [e, ih]
    have e2 : pcat f (k + 1) i = ptP (f i) ++ pcat f k (i + 1) := rfl
    rw [e2, List.append_assoc, show i + 1 + k = i + (k + 1) by omega]
theorem pcat_len (f : Nat → Pt) (n : Nat) (h : ∀ i, i < n → (ptP (f i)).length ≤ 320) : ∀ k, k ≤ n → (pcat f k 0).length ≤ 320 * k
  | 0, _ => by simp [pcat]
  | k + 1, hk => by
    have ih := pcat_len f n h k (by omega)
    have h1 := h k (by omega)
    rw [pcat_snoc, List.length_append, Nat.zero_add]
    omega
set_option maxHeartbeats 8000000 in
theorem packBack_law (w : World) {v : Value} (hv : IsParts w v) :
    Calls Try.prog 13 #[v] w fun e w' => e = .returned (.bool true) ∧ Below w.heap.size w w' := by
  obtain ⟨A, n, c, f, rfl, hnc, hcm, hr, hoks⟩ := hv
  have CLi := Lib.hid (light_any w w.heap.size A n c f hr hnc hcm (fun i hi => ⟨(hoks i hi).2.2.1, by have := (hoks i hi).2.2.2.2; omega⟩))
  have C9 := Lib.hid awake05_any
  have CP := Lib.hid (fun (p : Pt) (w : World) base b A c l h hb hl hok hS hF => put_part p w base b A c l h hb hl hok hS hF)
  have hcm' : c ≤ 9223372036854775807 := hcm
  generalize hN : w.heap.size = N at *
  go_enter Try.func13, Try.ntmps13
  go_wp2_with fail
  refine (CLi.out).mono ?_; rintro e w0 ⟨r, rfl, hl, rfl⟩
  clear CLi
  cases r
  · go_wp2_with fail
    refine (C9.out _).mono ?_; rintro e w2 ⟨rfl, b2⟩
    go_wp2
    go_ret
    exact ⟨rfl, hN ▸ b2⟩
  obtain ⟨hn30, hsm⟩ := hl rfl
  have hPl : ∀ i, i < n → (ptP (f i)).length ≤ 320 := fun i hi => ptP_len (f i) (hoks i hi).2.1 (hsm i hi).1
  have e0 : Wr (w.alloc (.cells #[.slice none 0 0] 64)) N N none 0 [] := by
    have := wr_new w N (by omega)
    rw [hN] at this
    exact this
  have b0 : Below N w (w.alloc (.cells #[.slice none 0 0] 64)) := (Below.refl _ _).alloc (by omega) _
  have E0 := Lib.hid e0
  have B0 := Lib.hid b0
  clear e0 b0 hl
  go_wp2_with fail
  generalize (w.alloc (.cells #[.slice none 0 0] 64)) = W0 at *
  go_loopw [4] (fun i wr => ∃ (j : Nat) (Aw : Option Addr) (cw : Nat), j ≤ n ∧ i = .int .i64 j ∧ Wr wr N N Aw cw (pcat f j 0) ∧ Below N w wr) (fun i _ => n - (intOf i).toNat)
  case atStart => exact ⟨0, none, 0, by omega, rfl, E0.out, B0.out⟩
  case round =>
    obtain ⟨j, Aw, cw, hj, rfl, hw, hB⟩ := hrel
    clear E0 B0
    have hNl := hw.2.1.lt
    have hLj := pcat_len f n hPl j hj
    by_cases hlt : j < n
    · obtain ⟨b0, o0, rfl, hb0, hcell⟩ := (hr.below hB) (by omega)
      obtain ⟨s0, s1, s2, s3, s4⟩ := hcell j hlt
      have hok := hoks j hlt
      obtain ⟨hS, hF⟩ := hsm j hlt
      have hok' : ptOk wr wr.heap.size (f j) := ⟨hok.1, hok.2.1, hok.2.2.1, (hok.2.2.2.1.below hB).more (by omega), hok.2.2.2.2⟩
      have cp := CP.out (f j) wr N N Aw cw (pcat f j 0) hw (by omega) (by omega) hok' hS hF
      have eS := pcat_snoc f j 0
      rw [Nat.zero_add] at eS
      rw [← eS] at cp
      unfold ptV at cp
      have HB := Lib.hid hB
      clear hcell hB hok' eS
      go_wp2_with fail
      refine (cp).mono ?_; rintro e w1 ⟨Aw1, cw1, rfl, hw1, st1⟩
      have hAw : ∀ g, bl Aw = some g → N ≤ g := fun g hg => (hw.2.2.block_lt g (by rw [ownBlock_bl]; exact hg)).1
      have bw : Below N wr w1 := st1.1.below (by rintro k hk (e | e); omega; have := hAw k e; omega) (by omega)
      have hB1 := Lib.hid (HB.out.trans bw)
      clear cp s0 s1 s2 s3 s4 hw st1 hAw bw HB
      go_wp2
      go_roundw
      case rel => exact ⟨j + 1, Aw1, cw1, by omega, by go_num, hw1, hB1.out⟩
      case measure => simp [intOf]; omega
    · obtain rfl : j = n := by omega
      have CB := Lib.hid (wbytes_any wr _ _ _ _ _ hw (by omega))
      have HB := Lib.hid hB
      clear CP hw hB
      go_wp2_with fail
      refine (CB.out).mono ?_; rintro e w1 ⟨A7, c7, rfl, o7, b7⟩
      have hs7 := b7.size
      have CD := Lib.hid (read_any w1 A7 (pcat f j 0).length c7 (pcat f j 0) o7.rd o7.2.1 o7.2.2)
      have HB1 := Lib.hid (HB.out.trans (below_of_le b7 (by omega)))
      clear CB o7 b7 HB
      go_wp2_with fail
      refine (CD.out).mono ?_; rintro e w2 ⟨rfl, hRe, b2⟩
      have HB2 := Lib.hid (HB1.out.trans (below_of_le b2 (by omega)))
      have hRe2 := Lib.hid hRe
      have hNrp : N < w1.heap.size := by omega
      clear CD b2 hRe HB1
      generalize w1.heap.size = rp at *
      go_wp2_with fail
      clear hj hlt
      generalize j = n at *
      go_loopw [6] (fun i wr => ∃ (i2 : Nat) (A : Option Addr) (n8 c8 : Nat), i2 ≤ n ∧ i = .int .i64 i2 ∧ Re wr rp A n8 c8 (pcat f (n - i2) i2) 0 ∧ Below N w wr) (fun i _ => n - (intOf i).toNat)
      case atStart => exact ⟨0, _, _, _, by omega, rfl, hRe2.out, HB2.out⟩
      case round =>
        obtain ⟨j, A8, n8, c8, hj, rfl, hR8, hB8⟩ := hrel
        clear hRe2 HB2
        by_cases hlt : j < n
        · obtain ⟨b0, o0, rfl, hb0, hcell⟩ := (hr.below hB8) (by omega)
          obtain ⟨s0, s1, s2, s3, s4⟩ := hcell j hlt
          have hok := hoks j hlt
          obtain ⟨hS, hF⟩ := hsm j hlt
          have eC : pcat f (n - j) j = ptP (f j) ++ pcat f (n - j - 1) (j + 1) := by
            rw [show n - j = n - j - 1 + 1 by omega]
            rfl
          rw [eC] at hR8
          have hrl := hR8.1.lt
          have hRb : Re (wr.alloc (.cells #[.int .i64 (f j).k, .int .u64 ((f j).N : Int), .string (f j).S, .slice (f j).FA (f j).fn (f j).fc, .int .i64 (f j).most] 70)) rp A8 n8 c8 (ptP (f j) ++ pcat f (n - j - 1) (j + 1)) 0 := ⟨hR8.1.alloc _, hR8.2.1.alloc (by omega) _, hR8.2.2⟩
          have HRb := Lib.hid hRb
          have HM := Lib.hid (Whole.new wr 70 #[.int .i64 (f j).k, .int .u64 ((f j).N : Int), .string (f j).S, .slice (f j).FA (f j).fn (f j).fc, .int .i64 (f j).most])
          have HB8 := Lib.hid (hB8.alloc (by omega) (.cells #[.int .i64 (f j).k, .int .u64 ((f j).N : Int), .string (f j).S, .slice (f j).FA (f j).fn (f j).fc, .int .i64 (f j).most] 70))
          have hmr : rp < wr.heap.size := hrl
          have hszb : wr.heap.size < (wr.alloc (.cells #[.int .i64 (f j).k, .int .u64 ((f j).N : Int), .string (f j).S, .slice (f j).FA (f j).fn (f j).fc, .int .i64 (f j).most] 70)).heap.size := by simp
          clear hcell hR8 hRb hB8 eC
          go_upto_region 13 with (fail)
          clear s0 s1 s2 s3 s4
          generalize (wr.alloc (.cells #[.int .i64 (f j).k, .int .u64 ((f j).N : Int), .string (f j).S, .slice (f j).FA (f j).fn (f j).fc, .int .i64 (f j).most] 70)) = wb at *
          generalize wr.heap.size = m at *
          have hmrp : m ≠ rp := by omega
          generalize hR : pcat f (n - j - 1) (j + 1) = R at *
          have u0 : wb.cell? ⟨m, 0, none⟩ = some (.int .i64 (f j).k) := by rw [HM.out.cell]; rfl
          have u1 : wb.cell? ⟨m, 1, none⟩ = some (.int .u64 ((f j).N : Int)) := by rw [HM.out.cell]; rfl
          have u2 : wb.cell? ⟨m, 2, none⟩ = some (.string (f j).S) := by rw [HM.out.cell]; rfl
          have u3 : wb.cell? ⟨m, 3, none⟩ = some (.slice (f j).FA (f j).fn (f j).fc) := by rw [HM.out.cell]; rfl
          by_cases e1 : (f j).k = 1
          · have t1 : ((f j).k == 1) = true := by simp [e1]
            have hP : ptP (f j) = vput (f j).N := by unfold ptP; rw [if_pos e1]
            have cn := rnum_any wb.drew rp A8 n8 c8 _ 0 (f j).N HRb.out
            rw [hP, rnumR_putx _ (Nat.le_refl _) hok.2.1] at cn
            have CN := Lib.hid cn
            have tN : (((f j).N : Int) != ((f j).N : Int)) = false := by simp
            clear cn HRb
            go_upto_region 15 with (fail)
            go_region_with ((go_at_call 63; refine (CN.out).mono ?_; rintro e w5 ⟨A9, n9, c9, rfl, hR9, hC9⟩; have M5 := HM.out.drew.ch hC9 hmrp; have q1 : w5.cell? ⟨m, 1, none⟩ = some (.int .u64 ((f j).N : Int)) := (by rw [M5.cell]; rfl); have HR9 := Lib.hid hR9; have HC9 := Lib.hid hC9; clear M5 hR9 hC9))
            all_goals
              go_wp2
              go_roundw
              case rel => exact ⟨j + 1, A9, n9, c9, by omega, by go_num, by rw [show n - (j + 1) = n - j - 1 by omega]; rw [hR]; exact HR9.out, HB8.out.drew.trans (HC9.out.below (S := fun g => g = rp) (B := N) (by intro k hk h; have h' : k = rp := h; omega) (by show N ≤ wb.heap.size; omega))⟩
              case measure => simp [intOf]; omega
          have t1 : ((f j).k == 1) = false := by simp [e1]
          by_cases e2 : (f j).k = 2
          · have t2 : ((f j).k == 2) = true := by simp [e2]
            have hP : ptP (f j) = vput (foldI (iN (f j).N)).toNat := by unfold ptP; rw [if_neg e1, if_pos e2]
            have hX1 := iN_b (f j).N
            unfold iN at hP hX1
            generalize hX : IntKind.i64.wrap ((f j).N : Int) = X at *
            by_cases hmin : X = -9223372036854775808
            · have tm : (X == -9223372036854775808) = true := by simp [hmin]
              go_wp2_with fail
              refine (C9.out _).mono ?_; rintro e w6 ⟨rfl, b6⟩
              go_wp2
              go_ret
              exact ⟨rfl, HB8.out.trans (below_of_le b6 (by omega))⟩
            · have tm : (X == -9223372036854775808) = false := by simp [hmin]
              have en : IntKind.i64.wrap (-X) = -X := IntWalk.i64_in _ (by omega)
              have tX : (X != X) = false := by simp
              have hRX := HRb.out
              rw [hP] at hRX
              by_cases hneg : X < -X
              · have CI := Lib.hid (rint_put X R wb rp A8 n8 c8 (-X) hRX (by omega) (by omega) (by omega) (by omega))
                clear hRX
                go_wp2_with fail
                refine (CI.out).mono ?_; rintro e w5 ⟨A9, n9, c9, rfl, hR9, hC9⟩
                have HR9 := Lib.hid hR9
                have HC9 := Lib.hid hC9
                clear hR9 hC9
                go_wp2
                go_roundw
                case rel => exact ⟨j + 1, A9, n9, c9, by omega, by go_num, by rw [show n - (j + 1) = n - j - 1 by omega]; rw [hR]; exact HR9.out, HB8.out.trans (HC9.out.below (S := fun g => g = rp) (B := N) (by intro k hk h; have h' : k = rp := h; omega) (by omega))⟩
                case measure => simp [intOf]; omega
              · have CI := Lib.hid (rint_put X R wb rp A8 n8 c8 X hRX (by omega) (by omega) (by omega) (by omega))
                clear hRX
                go_wp2_with fail
                refine (CI.out).mono ?_; rintro e w5 ⟨A9, n9, c9, rfl, hR9, hC9⟩
                have HR9 := Lib.hid hR9
                have HC9 := Lib.hid hC9
                clear hR9 hC9
                go_wp2
                go_roundw
                case rel => exact ⟨j + 1, A9, n9, c9, by omega, by go_num, by rw [show n - (j + 1) = n - j - 1 by omega]; rw [hR]; exact HR9.out, HB8.out.trans (HC9.out.below (S := fun g => g = rp) (B := N) (by intro k hk h; have h' : k = rp := h; omega) (by omega))⟩
                case measure => simp [intOf]; omega
          have t2 : ((f j).k == 2) = false := by simp [e2]
          by_cases e3 : (f j).k = 3
          · have t3 : ((f j).k == 3) = true := by simp [e3]
            have hP : ptP (f j) = vput (f j).S.size ++ sb (f j).S := by unfold ptP; rw [if_neg e1, if_neg e2, if_pos e3]
            have hRX := HRb.out
            rw [hP, List.append_assoc] at hRX
            have CT := Lib.hid (rtext_put (f j).S R wb.drew rp A8 n8 c8 (f j).S.size hRX (Nat.le_refl _) (by omega))
            clear hRX HRb
            go_upto_region 24 with (fail)
            go_region_with ((go_at_call 65; refine (CT.out).mono ?_; rintro e w5 ⟨A9, n9, c9, rfl, hR9, hC9⟩; have M5 := HM.out.drew.ch hC9 hmrp; have q2 : w5.cell? ⟨m, 2, none⟩ = some (.string (f j).S) := (by rw [M5.cell]; rfl); have HR9 := Lib.hid hR9; have HC9 := Lib.hid hC9; clear M5 hR9 hC9))
            all_goals
              go_wp2
              go_roundw
              case rel => exact ⟨j + 1, A9, n9, c9, by omega, by go_num, by rw [show n - (j + 1) = n - j - 1 by omega]; rw [hR]; exact HR9.out, HB8.out.drew.trans (HC9.out.below (S := fun g => g = rp) (B := N) (by intro k hk h; have h' : k = rp := h; omega) (by show N ≤ wb.heap.size; omega))⟩
              case measure => simp [intOf]; omega
          have t3 : ((f j).k == 3) = false := by simp [e3]
          by_cases e4 : (f j).k = 4
          · have t4 : ((f j).k == 4) = true := by simp [e4]
            have hP : ptP (f j) = [flB (f j).fl] := by unfold ptP; rw [if_neg e1, if_neg e2, if_neg e3, if_pos e4]
            have hfl : (f j).fl.length = (f j).fn := by have := hok.2.2.2.1.len; simpa [tv] using this
            have hRX := HRb.out
            rw [hP] at hRX
            have hRX' : Re wb.drew rp A8 n8 c8 (flB (f j).fl :: R) 0 := hRX
            have hfc := hok.2.2.2.2.1
            have hs1b : ∀ w, (sizeOf (Try.prog.elem 68)).run Try.prog w = .ok 1 w := fun w => by kernel_rfl
            have rF0 : Rd wb.drew N 1 (f j).FA (f j).fn (tv (f j).fl) := hok.2.2.2.1.below HB8.out.drew
            by_cases hle : (f j).fn ≤ 8
            · have g1 : ¬ ((8 : Int) < ((f j).fn : Int)) := by omega
              have g2 : ¬ 8 < (f j).fn := by omega
              have CFl := Lib.hid (rflags_put (f j).fl R wb.drew rp A8 n8 c8 (f j).fn hRX' (by omega))
              have hto := fun w => run_to (P := Try.prog) 68 (by kernel_rfl) hs1b (f j).FA (f j).fn (f j).fc ((f j).fn) (by omega) w
              have rF1 := Lib.hid (rF0.front (k := (f j).fn) (by omega))
              have etv : (tv (f j).fl).take ((f j).fn) = tv ((f j).fl.take ((f j).fn)) := by unfold tv; rw [List.map_take]
              have ETV := Lib.hid etv
              clear hRX hRX' HRb rF0 hfl etv hs1b
              go_upto_region 28 with (fail)
              go_region_with ((first
                | (go_at_call 67; refine (CFl.out).mono ?_; rintro e w5 ⟨A9, n9, c9, FA5, fc5, rfl, hR9, hF9, hC9⟩; have M5 := HM.out.drew.ch hC9 hmrp; have q3 : w5.cell? ⟨m, 3, none⟩ = some (.slice (f j).FA (f j).fn (f j).fc) := (by rw [M5.cell]; rfl); have bC := hC9.below (S := fun g => g = rp) (B := N) (by intro k hk h; have h' : k = rp := h; omega) (by show N ≤ wb.heap.size; omega); have rF5 := rF1.out.below bC; rw [ETV.out] at rF5; have hz5 := hC9.size; have BN := Lib.hid (HB8.out.drew.trans bC); have HR9 := Lib.hid hR9; have HF9 := Lib.hid hF9; have RF5 := Lib.hid rF5; clear M5 hR9 hC9 hF9 rF5 bC)
                | (go_at_call 66; refine (same_flags ((f j).fl.take ((f j).fn)) FA5 (f j).FA ((f j).fn) ((f j).fn) fc5 (f j).fc w5.heap.size w5 (by omega) HF9.out (RF5.out.more (by have : wb.drew.heap.size = wb.heap.size := rfl; omega)) (Nat.le_refl _)).mono ?_; rintro e w6 ⟨rfl, b6⟩)))
              all_goals
                go_wp2
                go_roundw
                case rel => exact ⟨j + 1, A9, n9, c9, by omega, by go_num, by rw [show n - (j + 1) = n - j - 1 by omega, hR]; exact ⟨HR9.out.1.below b6 HR9.out.1.lt, HR9.out.2.1.below (below_of_le b6 (Nat.le_of_lt HR9.out.1.lt)), HR9.out.2.2⟩, BN.out.trans (below_of_le b6 (by have : wb.drew.heap.size = wb.heap.size := rfl; omega))⟩
                case measure => simp [intOf]; omega
            · have g1 : (8 : Int) < ((f j).fn : Int) := by omega
              have g2 : 8 < (f j).fn := by omega
              have CFl := Lib.hid (rflags_put (f j).fl R wb.drew rp A8 n8 c8 8 hRX' (by omega))
              have hto := fun w => run_to (P := Try.prog) 68 (by kernel_rfl) hs1b (f j).FA (f j).fn (f j).fc (8) (by omega) w
              have rF1 := Lib.hid (rF0.front (k := 8) (by omega))
              have etv : (tv (f j).fl).take (8) = tv ((f j).fl.take (8)) := by unfold tv; rw [List.map_take]
              have ETV := Lib.hid etv
              clear hRX hRX' HRb rF0 hfl etv hs1b
              go_upto_region 28 with (fail)
              go_region_with ((first
                | (go_at_call 67; refine (CFl.out).mono ?_; rintro e w5 ⟨A9, n9, c9, FA5, fc5, rfl, hR9, hF9, hC9⟩; have M5 := HM.out.drew.ch hC9 hmrp; have q3 : w5.cell? ⟨m, 3, none⟩ = some (.slice (f j).FA (f j).fn (f j).fc) := (by rw [M5.cell]; rfl); have bC := hC9.below (S := fun g => g = rp) (B := N) (by intro k hk h; have h' : k = rp := h; omega) (by show N ≤ wb.heap.size; omega); have rF5 := rF1.out.below bC; rw [ETV.out] at rF5; have hz5 := hC9.size; have BN := Lib.hid (HB8.out.drew.trans bC); have HR9 := Lib.hid hR9; have HF9 := Lib.hid hF9; have RF5 := Lib.hid rF5; clear M5 hR9 hC9 hF9 rF5 bC)
                | (go_at_call 66; refine (same_flags ((f j).fl.take (8)) FA5 (f j).FA (8) (8) fc5 (f j).fc w5.heap.size w5 (by omega) HF9.out (RF5.out.more (by have : wb.drew.heap.size = wb.heap.size := rfl; omega)) (Nat.le_refl _)).mono ?_; rintro e w6 ⟨rfl, b6⟩)))
              all_goals
                go_wp2
                go_roundw
                case rel => exact ⟨j + 1, A9, n9, c9, by omega, by go_num, by rw [show n - (j + 1) = n - j - 1 by omega, hR]; exact ⟨HR9.out.1.below b6 HR9.out.1.lt, HR9.out.2.1.below (below_of_le b6 (Nat.le_of_lt HR9.out.1.lt)), HR9.out.2.2⟩, BN.out.trans (below_of_le b6 (by have : wb.drew.heap.size = wb.heap.size := rfl; omega))⟩
                case measure => simp [intOf]; omega
          have t4 : ((f j).k == 4) = false := by simp [e4]
          have hP : ptP (f j) = [] := by unfold ptP; rw [if_neg e1, if_neg e2, if_neg e3, if_neg e4]
          have hRX := HRb.out
          rw [hP, List.nil_append] at hRX
          go_wp2
          go_roundw
          case rel => exact ⟨j + 1, A8, n8, c8, by omega, by go_num, by rw [show n - (j + 1) = n - j - 1 by omega, hR]; exact hRX, HB8.out⟩
          case measure => simp [intOf]; omega
        · have hRx := hR8
          rw [show n - j = 0 by omega] at hRx
          have CE := Lib.hid (rend_any wr rp A8 n8 c8 [] 0 hRx)
          have HB8 := Lib.hid hB8
          clear hR8 hRx hB8
          go_wp2_with fail
          refine (CE.out).mono ?_; rintro e w5 ⟨rfl, rfl⟩
          go_wp2_with fail
          refine (C9.out _).mono ?_; rintro e w6 ⟨rfl, b6⟩
          go_wp2
          go_ret
          exact ⟨rfl, HB8.out.trans (below_of_le b6 (by have := HB8.out.size; omega))⟩
end Go.Proofs.Ytjlmbdhjpjbneaa
