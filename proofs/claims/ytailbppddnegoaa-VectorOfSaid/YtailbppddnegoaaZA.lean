/- Merged: Z1, Z2, Z3, Z4. -/
import Derived.Test.YtailbppddnegoaaYB
import Derived.Test.YtailbppddnegoaaQQ
import Derived.Test.YtailbppddnegoaaM5
import Derived.WalkSpells
import Derived.Deep.LoopGhost
import Derived.Deep.DeepCutAuto
import Derived.Test.YtailbppddnegoaaMB
/- Layer 18 (seen): sets in memory; New, Has. -/
namespace Go.Proofs.Ytailbppddnegoaa
open Go.RowKit
set_option linter.unusedVariables false
set_option maxRecDepth 100000
attribute [local go_sem ↓] Go.wp_at_zero Go.wp_at_succ

/-- The exceptions as a map's pairs. -/
def ones (B : List Dt) : List (Dt × Int) := B.map fun d => (d, 1)
theorem ones_keys (B : List Dt) : (ones B).map (·.1) = B := by
  unfold ones
  rw [List.map_map]
  exact List.map_id B
theorem ones_has (B : List Dt) (d : Dt) : mhas (ones B) d = decide (d ∈ B) := by
  rw [Bool.eq_iff_iff, mhas_iff, ones_keys, decide_eq_true_eq]
theorem ones_filter (B : List Dt) (p : Dt → Bool) : (ones B).filter (fun x => p x.1) = ones (B.filter p) := by
  unfold ones
  rw [List.filter_map]
  rfl
theorem ones_len (B : List Dt) : (ones B).length = B.length := by simp [ones]
/-- Blocks s, v, b, g hold a set: the struct, its base, the base's map, the map of exceptions. -/
structure SetIs (w : World) (s v b g : Nat) (M B : List Dt) : Prop where
  st : Whole w s 130 #[.pointer (some ⟨v, 0, none⟩), .map (some g)]
  vec : VecIs w v b M
  mp : MapIs Try.prog 27 3 dtV dtOk w g (ones B)
  ne : g ≠ b
  sw : Sw M B
section
variable {w w' : World} {s v b g : Nat} {M B : List Dt}
theorem map_block {W : List (Dt × Int)} (h : MapIs Try.prog 27 3 dtV dtOk w g W) : ∃ es clock, w.heap[g]? = some (.map es clock) := by
  obtain ⟨es, clock, hb, _⟩ := h.1
  exact ⟨es, clock, hb⟩
theorem whole_ne_map {t : TypeId} {cs : Array Value} {W : List (Dt × Int)} (h : Whole w s t cs) (k : MapIs Try.prog 27 3 dtV dtOk w g W) : s ≠ g := by
  rintro rfl
  obtain ⟨es, clock, hb⟩ := map_block k
  unfold Whole at h
  rw [h] at hb
  cases hb
theorem whole_ne_vmap {t : TypeId} {cs : Array Value} (h : Whole w s t cs) (k : VecIs w v b M) : s ≠ b := by
  rintro rfl
  obtain ⟨es, clock, hb, _⟩ := k.2.1.1
  unfold Whole at h
  rw [h] at hb
  cases hb
theorem SetIs.lts (h : SetIs w s v b g M B) : s < w.heap.size := h.st.lt
theorem SetIs.ltv (h : SetIs w s v b g M B) : v < w.heap.size := h.vec.ltv
theorem SetIs.ltb (h : SetIs w s v b g M B) : b < w.heap.size := h.vec.ltb
theorem SetIs.ltg (h : SetIs w s v b g M B) : g < w.heap.size := h.mp.lt
theorem SetIs.sb (h : SetIs w s v b g M B) : s ≠ b := whole_ne_vmap h.st h.vec
theorem SetIs.sg (h : SetIs w s v b g M B) : s ≠ g := whole_ne_map h.st h.mp
theorem SetIs.vg (h : SetIs w s v b g M B) : v ≠ g := whole_ne_map h.vec.1 h.mp
theorem SetIs.up (h : SetIs w s v b g M B) (hb : Below w.heap.size w w') : SetIs w' s v b g M B :=
  ⟨h.st.below hb h.lts, h.vec.up hb, h.mp.below hb h.ltg, h.ne, h.sw⟩
theorem SetIs.alloc (h : SetIs w s v b g M B) (o : Obj) : SetIs (w.alloc o) s v b g M B := h.up ((Below.refl _ _).alloc (Nat.le_refl _) _)
theorem SetIs.drew (h : SetIs w s v b g M B) : SetIs w.drew s v b g M B := ⟨h.st.drew, h.vec.drew, h.mp.drew, h.ne, h.sw⟩
theorem SetIs.ch {S : Nat → Prop} (h : SetIs w s v b g M B) (hc : Ch S w w') (h1 : ¬ S s) (h2 : ¬ S v) (h3 : ¬ S b) (h4 : ¬ S g) : SetIs w' s v b g M B :=
  ⟨h.st.ch hc h1, h.vec.ch hc h2 h3, h.mp.ch hc h4, h.ne, h.sw⟩
/-- The base is another one. -/
theorem SetIs.base {M' : List Dt} (h : SetIs w s v b g M B) (hc : Ch (fun k => k = b) w w') (hv : VecIs w' v b M') (hs : Sw M' B) : SetIs w' s v b g M' B :=
  ⟨h.st.ch hc h.sb, hv, h.mp.ch hc h.ne, h.ne, hs⟩
/-- The exceptions are others. -/
theorem SetIs.bey {B' : List Dt} (h : SetIs w s v b g M B) (hc : Ch (fun k => k = g) w w') (hm : MapIs Try.prog 27 3 dtV dtOk w' g (ones B')) (hs : Sw M B') : SetIs w' s v b g M B' :=
  ⟨h.st.ch hc h.sg, h.vec.ch hc h.vg (fun e => h.ne e.symm), hm, h.ne, hs⟩
theorem SetIs.c0 (h : SetIs w s v b g M B) : w.cell? ⟨s, 0, none⟩ = some (.pointer (some ⟨v, 0, none⟩)) := by rw [h.st.cell]; rfl
theorem SetIs.c1 (h : SetIs w s v b g M B) : w.cell? ⟨s, 1, none⟩ = some (.map (some g)) := by rw [h.st.cell]; rfl
theorem SetIs.look (h : SetIs w s v b g M B) {d : Dt} (hd : dtOk d) : ∃ n : Int, (Instr.lookup 122 (.map (some g)) (dtV d) true).run Try.prog w = .ok (.tuple #[.int .i64 n, .bool (decide (d ∈ B))]) w := by
  have := h.mp.lookup_ok dot_key Try.underlying122 Try.underlying3 (Try.zeroValue3 _) hd
  rw [ones_has] at this
  exact ⟨_, this⟩
theorem SetIs.put (h : SetIs w s v b g M B) {d : Dt} (hr : rightD d = true) (hl : B.length ≤ 1000000) :
    ∃ w', (Instr.mapUpdate 122 (.map (some g)) (dtV d) (.int .i64 1)).run Try.prog w = .ok () w' ∧ SetIs w' s v b g M (insD B d) ∧ Ch (fun k => k = g) w w' := by
  have hb := (rightD_iff _).1 hr
  have hd : dtOk d := ⟨wf_of (by omega) (by omega), wf_of (by omega) (by omega), wf_of (by omega) (by omega)⟩
  have hp : (ones (insD B d)).Perm ((d, 1) :: (ones B).filter fun p => decide (p.1 ≠ d)) := by
    rw [ones_filter B (fun x => decide (x ≠ d))]
    show ((insD B d).map fun d => (d, (1 : Int))).Perm ((d :: B.filter fun x => decide (x ≠ d)).map fun d => (d, (1 : Int)))
    refine List.Perm.map _ ((List.perm_ext_iff_of_nodup (srt_insD h.sw.srt d).nodup ?_).2 fun x => ?_)
    · refine List.nodup_cons.2 ⟨fun hm => ?_, (h.sw.srt.filter _).nodup⟩
      have := (List.mem_filter.1 hm).2
      simp at this
    · rw [mem_insD, List.mem_cons, List.mem_filter, decide_eq_true_eq]
      constructor
      · rintro (h1 | h1)
        · exact .inl h1
        · by_cases hx : x = d
          · exact .inl hx
          · exact .inr ⟨h1, hx⟩
      · rintro (h1 | h1)
        · exact .inl h1
        · exact .inr h1.1
  obtain ⟨w', q, m, gr⟩ := h.mp.update dot_key Try.underlying122 Try.underlying3 (by rw [ones_len]; simp only [maxLen]; omega) hd (by decide) hp
  have hc : Ch (fun k => k = g) w w' := (grown_ch gr).mono fun k _ hk => by injection hk
  refine ⟨w', q, h.bey hc m ⟨h.sw.vw, srt_insD h.sw.srt d, fun x hx => ?_⟩, hc⟩
  rcases (mem_insD _ _ _).1 hx with rfl | hx
  · exact hr
  · exact h.sw.right x hx
theorem SetIs.del (h : SetIs w s v b g M B) {d : Dt} (hd : dtOk d) (ty : TypeId) :
    ∃ w', (Builtin.delete_ #[122, 27] ty #[.map (some g), dtV d]).run Try.prog w = .ok (.tuple #[]) w' ∧ SetIs w' s v b g M (B.filter fun x => decide (x ≠ d)) ∧ Ch (fun k => k = g) w w' := by
  have hp : (ones (B.filter fun x => decide (x ≠ d))).Perm ((ones B).filter fun p => decide (p.1 ≠ d)) := by
    rw [ones_filter B (fun x => decide (x ≠ d))]
  obtain ⟨w', q, m, gr⟩ := h.mp.delete dot_key (ty := ty) Try.underlying122 hd hp
  have hc : Ch (fun k => k = g) w w' := (grown_ch gr).mono fun k _ hk => by injection hk
  exact ⟨w', q, h.bey hc m ⟨h.sw.vw, h.sw.srt.filter _, fun x hx => h.sw.right x (List.mem_filter.1 hx).1⟩, hc⟩
end
theorem Sw.nil : Sw [] [] := ⟨Vw.nil, List.Pairwise.nil, by simp⟩
/-- A set that the call has made. -/
def NewSet (w : World) (M B : List Dt) (e : Ending) (w' : World) : Prop := ∃ s v b g, e = .returned (.pointer (some ⟨s, 0, none⟩)) ∧ w.heap.size ≤ s ∧ w.heap.size ≤ v ∧ w.heap.size ≤ b ∧ w.heap.size ≤ g ∧ SetIs w' s v b g M B ∧ Below w.heap.size w w'
theorem ssnew_any (w : World) : Calls Try.prog 42 #[] w (NewSet w [] []) := by
  have CN := Lib.hid (vcnew_any w)
  generalize hN : w.heap.size = N at *
  go_enter Try.func42, Try.ntmps42
  go_wp2_with fail
  refine CN.out.mono ?_; rintro e w1 ⟨rfl, hv1, b1⟩
  have hz := hv1.ltv
  have hm := MapIs.made (P := Try.prog) (k := 27) (e := 3) (kV := dtV) (ok := dtOk) w1
  have hW := Whole.new (w1.alloc (.map #[] 0)) 130 #[.pointer (some ⟨N + 1, 0, none⟩), .map (some w1.heap.size)]
  have hs : (w1.alloc (.map #[] 0)).heap.size = w1.heap.size + 1 := by simp
  rw [hs] at hW
  have HE := Lib.hid (show NewSet w [] [] (.returned (.pointer (some ⟨w1.heap.size + 1, 0, none⟩))) ((w1.alloc (.map #[] 0)).alloc (.cells #[.pointer (some ⟨N + 1, 0, none⟩), .map (some w1.heap.size)] 130)) from
    ⟨w1.heap.size + 1, N + 1, N, w1.heap.size, rfl, by omega, by omega, by omega, by omega, ⟨hW, (hv1.alloc _).alloc _, by simpa [ones] using hm.alloc _, by omega, Sw.nil⟩, by rw [hN]; exact (b1.alloc (by omega) _).alloc (by simp; omega) _⟩)
  have mk : (Instr.makeMap 122 none).run Try.prog w1 = .ok (.map (some w1.heap.size)) (w1.alloc (.map #[] 0)) := run_makeMap _ _
  clear hv1 b1 hm hW hs
  go_wp2
  go_ret
  exact HE.out
/-- Has a set a dot? -/
def hasS (M B : List Dt) (d : Dt) : Bool := decide (d ∈ B) || vhasB M d
theorem hasS_iff (M B : List Dt) (d : Dt) : hasS M B d = true ↔ inS M B d := by
  unfold hasS inS vhasB
  simp only [Bool.or_eq_true, Bool.and_eq_true, decide_eq_true_eq]
/-- p points to a set, or is nil. -/
def SetAt (w : World) (p : Option Addr) (M B : List Dt) : Prop := (p = none ∧ M = [] ∧ B = []) ∨ ∃ s v b g, p = some ⟨s, 0, none⟩ ∧ SetIs w s v b g M B
theorem SetIs.at_ {w : World} {s v b g : Nat} {M B : List Dt} (h : SetIs w s v b g M B) : SetAt w (some ⟨s, 0, none⟩) M B := .inr ⟨s, v, b, g, rfl, h⟩
theorem SetAt.nil (w : World) : SetAt w none [] [] := .inl ⟨rfl, rfl, rfl⟩
theorem SetAt.up {w w' : World} {p : Option Addr} {M B : List Dt} (h : SetAt w p M B) (hb : Below w.heap.size w w') : SetAt w' p M B := by
  rcases h with h | ⟨s, v, b, g, rfl, h⟩
  · exact .inl h
  · exact (h.up hb).at_
theorem SetAt.sw {w : World} {p : Option Addr} {M B : List Dt} (h : SetAt w p M B) : Sw M B := by
  rcases h with ⟨_, rfl, rfl⟩ | ⟨s, v, b, g, _, h⟩
  · exact Sw.nil
  · exact h.sw
set_option maxHeartbeats 1000000 in
theorem sshas_in (x : Dt) (ok : dtOk x) (w : World) (s v b g : Nat) (M B : List Dt) (h : SetIs w s v b g M B) :
    Calls Try.prog 46 #[.pointer (some ⟨s, 0, none⟩), dtV x] w fun e w' => e = .returned (.bool (hasS M B x)) ∧ Below w.heap.size w w' := by
  have CH := Lib.hid (fun W (h : VecIs W v b M) => vchas_any x W _ M h.at_)
  have hhs : hasS M B x = (decide (x ∈ B) || vhasB M x) := rfl
  rw [hhs]
  clear hhs
  have B0 := (Below.refl w.heap.size w).alloc (Nat.le_refl _) (.cells #[.int .i64 x.1.1, .int .i64 x.1.2, .int .i64 x.2] 27)
  have H0 := Lib.hid (And.intro (h.up B0) (And.intro (C3.new w x.1.1 x.1.2 x.2 27) B0))
  obtain ⟨n, lk⟩ := (h.up B0).drew.look ok
  have LK := Lib.hid lk
  clear h B0 lk
  obtain ⟨⟨d, i⟩, q⟩ := x
  generalize hN : w.heap.size = N at *
  generalize vhasB M ((d, i), q) = r2 at *
  generalize decide (((d, i), q) ∈ B) = r1 at *
  unfold dtV at CH LK
  unfold dtV
  simp only at LK H0
  go_enter Try.func46, Try.ntmps46
  go_wp2_with fail
  generalize (w.alloc (.cells #[.int .i64 d, .int .i64 i, .int .i64 q] 27)) = W at *
  have hs := H0.out.1
  have hc := H0.out.2.1
  have hNW : N < W.heap.size := World.block_lt_of_cell? W _ hc.1
  have l1 := hs.c1
  obtain ⟨k0, k1, k2⟩ := hc
  have lk := LK.out
  clear hs LK
  go_region
  clear lk l1 k0 k1 k2
  cases r1
  · go_wp2_with fail
    refine wp_region_held_drew (S := (fun W => W.cell? ⟨N, 0, none⟩ = some (.int .i64 d) ∧ W.cell? ⟨N, 1, none⟩ = some (.int .i64 i) ∧ W.cell? ⟨N, 2, none⟩ = some (.int .i64 q) ∧ W.cell? ⟨s, 0, none⟩ = some (.pointer (some ⟨v, 0, none⟩)))) (by kernel_rfl) ?_ (fun hHeld => ?_)
    · (try dsimp only); exact ⟨H0.out.2.1.1, H0.out.2.1.2.1, H0.out.2.1.2.2, H0.out.1.c0⟩
    refine wpAnyH_take (i := 0) (v := ?_) rfl (by kernel_rfl) (by kernel_rfl) (by kernel_rfl) (fun _ _ _ h => h) (Or.inl ⟨by rfl, ?_⟩) (by assumption) ?_
    rotate_left
    first | (focus ((intro w hSw; (try dsimp only at hSw); go_simp); (try with_reducible rfl); done)) | fail
    try simp only [Act.put, List.getElem_toArray, List.getElem_cons_zero, List.setIfInBounds_toArray, List.set_cons_zero, List.set_cons_succ]
    refine wpAnyH_take (i := 1) (v := ?_) rfl (by kernel_rfl) (by kernel_rfl) (by kernel_rfl) (fun _ _ _ h => h) (Or.inl ⟨by rfl, ?_⟩) (by assumption) ?_
    rotate_left
    first | (focus ((intro w hSw; (try dsimp only at hSw); go_simp); (try with_reducible rfl); done)) | fail
    try simp only [Act.put, List.getElem_toArray, List.getElem_cons_zero, List.getElem_cons_succ, List.setIfInBounds_toArray, List.set_cons_zero, List.set_cons_succ]
    refine wpAnyH_take (i := 2) (v := ?_) rfl (by kernel_rfl) (by kernel_rfl) (by kernel_rfl) (fun _ _ _ h => h) (Or.inl ⟨by rfl, ?_⟩) (by assumption) ?_
    rotate_left
    first | (focus ((intro w hSw; (try dsimp only at hSw); go_simp); (try with_reducible rfl); done)) | fail
    try simp only [Act.put, List.getElem_toArray, List.getElem_cons_zero, List.getElem_cons_succ, List.setIfInBounds_toArray, List.set_cons_zero, List.set_cons_succ]
    refine wpAnyH_take (i := 3) (v := ?_) rfl (by kernel_rfl) (by kernel_rfl) (by kernel_rfl) (fun _ _ _ h => h) (Or.inl ⟨by rfl, ?_⟩) (by assumption) ?_
    rotate_left
    first | (focus ((intro w hSw; (try dsimp only at hSw); go_simp); (try with_reducible rfl); done)) | fail
    try simp only [Act.put, List.getElem_toArray, List.getElem_cons_zero, List.getElem_cons_succ, List.setIfInBounds_toArray, List.set_cons_zero, List.set_cons_succ]
    refine wpAnyH_take (i := 4) (v := ?_) rfl (by kernel_rfl) (by kernel_rfl) (by kernel_rfl) (fun _ _ _ h => h) (Or.inl ⟨by rfl, ?_⟩) (by assumption) ?_
    rotate_left
    first | (focus ((intro w hSw; (try dsimp only at hSw); go_simp); (try with_reducible rfl); done)) | fail
    try simp only [Act.put, List.getElem_toArray, List.getElem_cons_zero, List.getElem_cons_succ, List.setIfInBounds_toArray, List.set_cons_zero, List.set_cons_succ]
    refine wpAnyH_take (i := 5) (v := ?_) rfl (by kernel_rfl) (by kernel_rfl) (by kernel_rfl) (fun _ _ _ h => h) (Or.inl ⟨by rfl, ?_⟩) (by assumption) ?_
    rotate_left
    first | (focus ((intro w hSw; (try dsimp only at hSw); go_simp); (try with_reducible rfl); done)) | fail
    try simp only [Act.put, List.getElem_toArray, List.getElem_cons_zero, List.getElem_cons_succ, List.setIfInBounds_toArray, List.set_cons_zero, List.set_cons_succ]
    refine wpAnyH_take (i := 6) (v := ?_) rfl (by kernel_rfl) (by kernel_rfl) (by kernel_rfl) (fun _ _ _ h => h) (Or.inl ⟨by rfl, ?_⟩) (by assumption) ?_
    rotate_left
    first | (focus ((intro w hSw; (try dsimp only at hSw); go_simp); (try with_reducible rfl); done)) | fail
    try simp only [Act.put, List.getElem_toArray, List.getElem_cons_zero, List.getElem_cons_succ, List.setIfInBounds_toArray, List.set_cons_zero, List.set_cons_succ]
    refine wpAnyH_ready (rs := [7]) (by kernel_rfl) (by simp) ?_
    refine AllReadyH.cons rfl (fun K hK => ?_) AllReadyH.nil
    go_simp
    refine (CH.out _ H0.out.1.drew.drew.vec).mono ?_; rintro e w1 ⟨rfl, b1⟩
    go_wp2_with fail
    refine hK.out _ _ ?_ (fun hHeld => ?_)
    · (try dsimp only); (have hh := C3.up (W := W.drew.drew) H0.out.2.1 hNW b1; exact ⟨hh.1, hh.2.1, hh.2.2, ((H0.out.1.drew.drew).up b1).c0⟩)
    clear hK K
    try simp only [Act.put, List.getElem_toArray, List.getElem_cons_zero, List.getElem_cons_succ, List.setIfInBounds_toArray, List.set_cons_zero, List.set_cons_succ]
    refine wpAnyH_take (i := 8) (v := ?_) rfl (by kernel_rfl) (by kernel_rfl) (by kernel_rfl) (fun _ _ _ h => h) (Or.inl ⟨by rfl, ?_⟩) (by assumption) ?_
    rotate_left
    first | (focus ((intro w hSw; (try dsimp only at hSw); go_simp); (try with_reducible rfl); done)) | fail
    try simp only [Act.put, List.getElem_toArray, List.getElem_cons_zero, List.getElem_cons_succ, List.setIfInBounds_toArray, List.set_cons_zero, List.set_cons_succ]
    refine wpAnyH_take (i := 9) (v := ?_) rfl (by kernel_rfl) (by kernel_rfl) (by kernel_rfl) (fun _ _ _ h => h) (Or.inl ⟨by rfl, ?_⟩) (by assumption) ?_
    rotate_left
    first | (focus ((intro w hSw; (try dsimp only at hSw); go_simp); (try with_reducible rfl); done)) | fail
    try simp only [Act.put, List.getElem_toArray, List.getElem_cons_zero, List.getElem_cons_succ, List.setIfInBounds_toArray, List.set_cons_zero, List.set_cons_succ]
    refine wpAnyH_done (by kernel_rfl) ?_ _
    have HF := Lib.hid (H0.out.2.2.drew.drew.trans (below_of_le b1 (show N ≤ W.heap.size by omega)))
    clear b1
    go_wp2
    go_ret
    exact ⟨rfl, HF.out⟩
  · go_wp2_with fail
    refine wp_region_held_drew (S := (fun _ => True)) (by kernel_rfl) ?_ (fun hHeld => ?_)
    · (try dsimp only); try trivial
    refine wpAnyH_take (i := 0) (v := ?_) rfl (by kernel_rfl) (by kernel_rfl) (by kernel_rfl) (fun _ _ _ h => h) (Or.inl ⟨by rfl, ?_⟩) (by assumption) ?_
    rotate_left
    first | (focus ((intro w hSw; (try dsimp only at hSw); go_simp); (try with_reducible rfl); done)) | fail
    try simp only [Act.put, List.getElem_toArray, List.getElem_cons_zero, List.setIfInBounds_toArray, List.set_cons_zero, List.set_cons_succ]
    refine wpAnyH_take (i := 1) (v := ?_) rfl (by kernel_rfl) (by kernel_rfl) (by kernel_rfl) (fun _ _ _ h => h) (Or.inl ⟨by rfl, ?_⟩) (by assumption) ?_
    rotate_left
    first | (focus ((intro w hSw; (try dsimp only at hSw); go_simp); (try with_reducible rfl); done)) | fail
    try simp only [Act.put, List.getElem_toArray, List.getElem_cons_zero, List.getElem_cons_succ, List.setIfInBounds_toArray, List.set_cons_zero, List.set_cons_succ]
    refine wpAnyH_take (i := 2) (v := undef) rfl (by kernel_rfl) (by kernel_rfl) (by kernel_rfl) (fun _ _ _ h => h) (Or.inr ⟨by rfl, rfl⟩) (by assumption) ?_
    try simp only [Act.put, List.getElem_toArray, List.getElem_cons_zero, List.getElem_cons_succ, List.setIfInBounds_toArray, List.set_cons_zero, List.set_cons_succ]
    refine wpAnyH_take (i := 3) (v := undef) rfl (by kernel_rfl) (by kernel_rfl) (by kernel_rfl) (fun _ _ _ h => h) (Or.inr ⟨by rfl, rfl⟩) (by assumption) ?_
    try simp only [Act.put, List.getElem_toArray, List.getElem_cons_zero, List.getElem_cons_succ, List.setIfInBounds_toArray, List.set_cons_zero, List.set_cons_succ]
    refine wpAnyH_take (i := 4) (v := undef) rfl (by kernel_rfl) (by kernel_rfl) (by kernel_rfl) (fun _ _ _ h => h) (Or.inr ⟨by rfl, rfl⟩) (by assumption) ?_
    try simp only [Act.put, List.getElem_toArray, List.getElem_cons_zero, List.getElem_cons_succ, List.setIfInBounds_toArray, List.set_cons_zero, List.set_cons_succ]
    refine wpAnyH_take (i := 5) (v := undef) rfl (by kernel_rfl) (by kernel_rfl) (by kernel_rfl) (fun _ _ _ h => h) (Or.inr ⟨by rfl, rfl⟩) (by assumption) ?_
    try simp only [Act.put, List.getElem_toArray, List.getElem_cons_zero, List.getElem_cons_succ, List.setIfInBounds_toArray, List.set_cons_zero, List.set_cons_succ]
    refine wpAnyH_take (i := 6) (v := undef) rfl (by kernel_rfl) (by kernel_rfl) (by kernel_rfl) (fun _ _ _ h => h) (Or.inr ⟨by rfl, rfl⟩) (by assumption) ?_
    try simp only [Act.put, List.getElem_toArray, List.getElem_cons_zero, List.getElem_cons_succ, List.setIfInBounds_toArray, List.set_cons_zero, List.set_cons_succ]
    refine wpAnyH_take (i := 7) (v := undef) rfl (by kernel_rfl) (by kernel_rfl) (by kernel_rfl) (fun _ _ _ h => h) (Or.inr ⟨by rfl, rfl⟩) (by assumption) ?_
    try simp only [Act.put, List.getElem_toArray, List.getElem_cons_zero, List.getElem_cons_succ, List.setIfInBounds_toArray, List.set_cons_zero, List.set_cons_succ]
    refine wpAnyH_take (i := 8) (v := ?_) rfl (by kernel_rfl) (by kernel_rfl) (by kernel_rfl) (fun _ _ _ h => h) (Or.inl ⟨by rfl, ?_⟩) (by assumption) ?_
    rotate_left
    first | (focus ((intro w hSw; (try dsimp only at hSw); go_simp); (try with_reducible rfl); done)) | fail
    try simp only [Act.put, List.getElem_toArray, List.getElem_cons_zero, List.getElem_cons_succ, List.setIfInBounds_toArray, List.set_cons_zero, List.set_cons_succ]
    refine wpAnyH_take (i := 9) (v := ?_) rfl (by kernel_rfl) (by kernel_rfl) (by kernel_rfl) (fun _ _ _ h => h) (Or.inl ⟨by rfl, ?_⟩) (by assumption) ?_
    rotate_left
    first | (focus ((intro w hSw; (try dsimp only at hSw); go_simp); (try with_reducible rfl); done)) | fail
    try simp only [Act.put, List.getElem_toArray, List.getElem_cons_zero, List.getElem_cons_succ, List.setIfInBounds_toArray, List.set_cons_zero, List.set_cons_succ]
    refine wpAnyH_done (by kernel_rfl) ?_ _
    go_wp2
    go_ret
    exact ⟨rfl, H0.out.2.2.drew.drew⟩
theorem sshas_nil (x : Dt) (w : World) : Calls Try.prog 46 #[.pointer none, dtV x] w fun e w' => e = .returned (.bool false) ∧ Below w.heap.size w w' := by
  have B0 := Lib.hid ((Below.refl w.heap.size w).alloc (Nat.le_refl _) (.cells #[.int .i64 x.1.1, .int .i64 x.1.2, .int .i64 x.2] 27))
  unfold dtV
  go_enter Try.func46, Try.ntmps46
  go_wp2
  go_ret
  exact ⟨rfl, B0.out⟩
theorem hasS_nil (x : Dt) : hasS [] [] x = false := by
  cases h : hasS [] [] x
  · rfl
  · rcases (hasS_iff _ _ _).1 h with h | ⟨h1, h2⟩
    · cases h
    · have := (rightD_iff x).1 h1
      have h0 : mget ([] : List Dt) x.1 = 0 := rfl
      omega
theorem sshas_any (x : Dt) (ok : dtOk x) (w : World) (p : Option Addr) (M B : List Dt) (h : SetAt w p M B) :
    Calls Try.prog 46 #[.pointer p, dtV x] w fun e w' => e = .returned (.bool (hasS M B x)) ∧ Below w.heap.size w w' := by
  rcases h with ⟨rfl, rfl, rfl⟩ | ⟨s, v, b, g, rfl, h⟩
  · rw [hasS_nil]; exact sshas_nil x w
  · exact sshas_in x ok w s v b g M B h
end Go.Proofs.Ytailbppddnegoaa
/- Layer 18 (seen): fill. -/
namespace Go.Proofs.Ytailbppddnegoaa
open Go.RowKit
set_option linter.unusedVariables false
set_option maxRecDepth 100000
attribute [local go_sem ↓] Go.wp_at_zero Go.wp_at_succ

/-- 'delete' as a step of a region that draws, its run known. -/
theorem step_delete_run {P : Program} {ops : Array Oper} {o : Oper} {a : Act} {w : World} {K : Act → World → Prop} {Q : Exit → Act → World → Prop} {E : Prop} (hg : o.guard = none) (m x : Operand) (t k : TypeId)
    (ho : o.op = .call { callee := .builtin .delete, args := #[m, x], argTypes := #[t, k] }) (vm vx : Value) (hm : a.eval m = vm) (hx : a.eval x = vx)
    (w' : World) (hr : (Builtin.delete_ #[t, k] o.type #[vm, vx]).run P w = .ok (.tuple #[]) w') (h : K (a.put o.dst (.tuple #[])) w') : if Region.wanted o (yielded ops a.tmps) = true then Oper.wp P o a w K Q else E := by
  have hw : Region.wanted o (yielded ops a.tmps) = true := by simp [Region.wanted, hg]
  rw [if_pos hw]
  unfold Oper.wp
  simp [execOp, ho, resolve, invoke, builtin, hm, hx, hr, Result.andThen]
  exact h
theorem Sw.ok {M B : List Dt} (h : Sw M B) {d : Dt} (hd : d ∈ B) : dtOk d := by
  have := (rightD_iff d).1 (h.right d hd)
  exact ⟨wf_of (by omega) (by omega), wf_of (by omega) (by omega), wf_of (by omega) (by omega)⟩
/-- Three stores into a block of three cells. -/
theorem set3 {w : World} {P : Nat} {t : TypeId} {c0 c1 c2 x y z : Value} (h : Whole w P t #[c0, c1, c2]) :
    Whole (((w.setCell ⟨P, 0, none⟩ x).setCell ⟨P, 1, none⟩ y).setCell ⟨P, 2, none⟩ z) P t #[x, y, z] ∧ Ch (fun k => k = P) w (((w.setCell ⟨P, 0, none⟩ x).setCell ⟨P, 1, none⟩ y).setCell ⟨P, 2, none⟩ z) :=
  ⟨((h.set_ 0 x).set_ 1 y).set_ 2 z, ((Ch.set_ w ⟨P, 0, none⟩ x).trans (Ch.set_ _ ⟨P, 1, none⟩ y) (fun k _ h => h)).trans (Ch.set_ _ ⟨P, 2, none⟩ z) (fun k _ h => h)⟩
theorem C2.blk {N : Nat} {d i : Int} {W W' : World} (h : C2 N d i W) (hb : W'.heap[N]? = W.heap[N]?) : C2 N d i W' :=
  ⟨(World.cell?_of_block hb).trans h.1, (World.cell?_of_block hb).trans h.2⟩
theorem C3.of {P : Nat} {t : TypeId} {x y z : Int} {w : World} (h : Whole w P t #[.int .i64 x, .int .i64 y, .int .i64 z]) : C3 P x y z w :=
  ⟨by rw [h.cell]; rfl, by rw [h.cell]; rfl, by rw [h.cell]; rfl⟩
/-- What filling leaves. -/
def FillEnd (w : World) (s v b g : Nat) (M B : List Dt) (a : Ac) (e : Ending) (w' : World) : Prop :=
  e = .returned (.tuple #[]) ∧ ∃ M' B', FillR M B a M' B' ∧ Good M' B' a ∧ SetIs w' s v b g M' B' ∧ Ch (fun k => k = b ∨ k = g) w w'
set_option maxHeartbeats 2000000 in
theorem ssfill_any (a : Ac) (ok : acOk a) (w : World) (s v b g : Nat) (M B : List Dt) (h : SetIs w s v b g M B) :
    Calls Try.prog 94 #[.pointer (some ⟨s, 0, none⟩), acV a] w (FillEnd w s v b g M B a) := by
  obtain ⟨d, i⟩ := a
  have CG := Lib.hid (fun W (M : List Dt) (h : VecIs W v b M) => vcget_any (d, i) ok W _ M h.at_)
  have CT := Lib.hid (fun W (M : List Dt) (x : Dt) (h : VecIs W v b M) => vctake_any x W v b M h)
  have B0 := (Below.refl w.heap.size w).alloc (Nat.le_refl _) (.cells #[.int .i64 d, .int .i64 i] 25)
  have H0 := Lib.hid (And.intro (h.up B0) (And.intro (C2.mk_ (Whole.new w 25 #[.int .i64 d, .int .i64 i])) (And.intro (below_ch (S := fun k => k = b ∨ k = g) B0) (FillR.refl h.sw (d, i)))))
  have hlt := Lib.hid (And.intro h.ltb h.ltg)
  generalize hN : w.heap.size = N at *
  unfold acV at CG
  unfold dtV at CT
  clear h B0
  unfold acV
  go_enter Try.func94, Try.ntmps94
  go_wp2_with fail
  generalize (w.alloc (.cells #[.int .i64 d, .int .i64 i] 25)) = W0 at *
  go_loopg [6] B.length (fun k y wr => ∃ M' B', k = B'.length ∧ SetIs wr s v b g M' B' ∧ C2 N d i wr ∧ Ch (fun k => k = b ∨ k = g) w wr ∧ FillR M B (d, i) M' B')
  case atStart => exact ⟨M, B, rfl, H0.out.1, H0.out.2.1, H0.out.2.2.1, H0.out.2.2.2⟩
  case round =>
    obtain ⟨M1, B1, hk, hI⟩ := hrel
    have HI := Lib.hid hI
    have HK := Lib.hid hk
    clear hI hk H0
    have hq0 := HI.out.1.vec.2.2.ge0 (d, i)
    have hq1 := HI.out.1.vec.2.2.le (d, i)
    have CX := Lib.hid (fun W h => CG.out W M1 h)
    generalize hq : mget M1 (d, i) = q at *
    have HQ := Lib.hid hq
    have hw1 : IntKind.i64.wrap (q + 1) = q + 1 := by rw [IntKind.wrap_i64]; omega
    have hNr : N < wr.heap.size := World.block_lt_of_cell? wr _ HI.out.2.1.1
    clear hq
    go_upto_region 1 with fail
    go_cut [4] from 7 to 15 (fun p wx => ∃ P, p = .pointer (some ⟨P, 0, none⟩) ∧ C3 P d i (q + 1) wx ∧ SetIs wx s v b g M1 B1 ∧ C2 N d i wx ∧ Ch (fun k => k = b ∨ k = g) w wx)
    case first =>
      refine wp_region_held_drew (S := (fun W => W.cell? ⟨N, 0, none⟩ = some (.int .i64 d) ∧ W.cell? ⟨N, 1, none⟩ = some (.int .i64 i) ∧ W.cell? ⟨s, 0, none⟩ = some (.pointer (some ⟨v, 0, none⟩)))) (by kernel_rfl) ?_ (fun hHeld => ?_)
      · (try dsimp only); exact ⟨HI.out.2.1.1, HI.out.2.1.2, HI.out.1.c0⟩
      refine wpAnyH_take (i := 0) (v := ?_) rfl (by kernel_rfl) (by kernel_rfl) (by kernel_rfl) (fun _ _ _ h => h) (Or.inl ⟨by rfl, ?_⟩) (by assumption) ?_
      rotate_left
      first | (focus ((intro w hSw; (try dsimp only at hSw); go_simp); (try with_reducible rfl); done)) | fail
      try simp only [Act.put, List.getElem_toArray, List.getElem_cons_zero, List.setIfInBounds_toArray, List.set_cons_zero, List.set_cons_succ]
      refine wpAnyH_take (i := 1) (v := ?_) rfl (by kernel_rfl) (by kernel_rfl) (by kernel_rfl) (fun _ _ _ h => h) (Or.inl ⟨by rfl, ?_⟩) (by assumption) ?_
      rotate_left
      first | (focus ((intro w hSw; (try dsimp only at hSw); go_simp); (try with_reducible rfl); done)) | fail
      try simp only [Act.put, List.getElem_toArray, List.getElem_cons_zero, List.getElem_cons_succ, List.setIfInBounds_toArray, List.set_cons_zero, List.set_cons_succ]
      refine wpAnyH_take (i := 2) (v := ?_) rfl (by kernel_rfl) (by kernel_rfl) (by kernel_rfl) (fun _ _ _ h => h) (Or.inl ⟨by rfl, ?_⟩) (by assumption) ?_
      rotate_left
      first | (focus ((intro w hSw; (try dsimp only at hSw); go_simp); (try with_reducible rfl); done)) | fail
      try simp only [Act.put, List.getElem_toArray, List.getElem_cons_zero, List.getElem_cons_succ, List.setIfInBounds_toArray, List.set_cons_zero, List.set_cons_succ]
      refine wpAnyH_take (i := 3) (v := ?_) rfl (by kernel_rfl) (by kernel_rfl) (by kernel_rfl) (fun _ _ _ h => h) (Or.inl ⟨by rfl, ?_⟩) (by assumption) ?_
      rotate_left
      first | (focus ((intro w hSw; (try dsimp only at hSw); go_simp); (try with_reducible rfl); done)) | fail
      try simp only [Act.put, List.getElem_toArray, List.getElem_cons_zero, List.getElem_cons_succ, List.setIfInBounds_toArray, List.set_cons_zero, List.set_cons_succ]
      refine wpAnyH_take (i := 4) (v := ?_) rfl (by kernel_rfl) (by kernel_rfl) (by kernel_rfl) (fun _ _ _ h => h) (Or.inl ⟨by rfl, ?_⟩) (by assumption) ?_
      rotate_left
      first | (focus ((intro w hSw; (try dsimp only at hSw); go_simp); (try with_reducible rfl); done)) | fail
      try simp only [Act.put, List.getElem_toArray, List.getElem_cons_zero, List.getElem_cons_succ, List.setIfInBounds_toArray, List.set_cons_zero, List.set_cons_succ]
      refine wpAnyH_take (i := 5) (v := ?_) rfl (by kernel_rfl) (by kernel_rfl) (by kernel_rfl) (fun _ _ _ h => h) (Or.inl ⟨by rfl, ?_⟩) (by assumption) ?_
      rotate_left
      first | (focus ((intro w hSw; (try dsimp only at hSw); go_simp); (try with_reducible rfl); done)) | fail
      try simp only [Act.put, List.getElem_toArray, List.getElem_cons_zero, List.getElem_cons_succ, List.setIfInBounds_toArray, List.set_cons_zero, List.set_cons_succ]
      refine wpAnyH_ready (rs := [6, 9]) (by kernel_rfl) (by simp) ?_
      refine AllReadyH.cons rfl (fun K hK => ?_) (AllReadyH.cons rfl (fun K hK => ?_) AllReadyH.nil)
      · skip
        go_simp
        refine (CX.out _ HI.out.1.drew.vec).mono ?_; rintro e w5 ⟨rfl, b5⟩
        go_wp2_with fail
        refine hK.out _ _ ?_ (fun hHeld => ?_)
        · (try dsimp only); exact ⟨(b5.cell (by show N < wr.heap.size; omega)).trans hHeld.1, (b5.cell (by show N < wr.heap.size; omega)).trans hHeld.2.1, (HI.out.1.drew.up b5).c0⟩
        clear hK K
        try simp only [Act.put, List.getElem_toArray, List.getElem_cons_zero, List.getElem_cons_succ, List.setIfInBounds_toArray, List.set_cons_zero, List.set_cons_succ]
        refine wpAnyH_take (i := 7) (v := ?_) rfl (by kernel_rfl) (by kernel_rfl) (by kernel_rfl) (fun _ _ _ h => h) (Or.inl ⟨by rfl, ?_⟩) (by assumption) ?_
        rotate_left
        first | (focus ((intro w hSw; (try dsimp only at hSw); go_simp); (try with_reducible rfl); done)) | fail
        try simp only [Act.put, List.getElem_toArray, List.getElem_cons_zero, List.getElem_cons_succ, List.setIfInBounds_toArray, List.set_cons_zero, List.set_cons_succ]
        refine wpAnyH_take (i := 8) (v := ?_) rfl (by kernel_rfl) (by kernel_rfl) (by kernel_rfl) (fun _ _ _ h => h) (Or.inl ⟨by rfl, ?_⟩) (by assumption) ?_
        rotate_left
        first | (focus ((intro w hSw; (try dsimp only at hSw); go_simp); (try with_reducible rfl); done)) | fail
        try simp only [Act.put, List.getElem_toArray, List.getElem_cons_zero, List.getElem_cons_succ, List.setIfInBounds_toArray, List.set_cons_zero, List.set_cons_succ]
        have H5 := Lib.hid (And.intro (HI.out.1.drew.up b5) (And.intro (show C2 N d i w5 from ⟨hHeld.1, hHeld.2.1⟩) (HI.out.2.2.1.drew.trans (below_ch (S := fun k => k = b ∨ k = g) b5) (fun k _ h => h))))
        clear b5 HI
        have hN5 : N < w5.heap.size := World.block_lt_of_cell? w5 _ H5.out.2.1.1
        refine wpAnyH_ready (rs := [9]) (by kernel_rfl) (by simp) ?_
        refine AllReadyH.cons rfl (fun K hK => ?_) AllReadyH.nil
        go_simp
        refine hK.out _ _ ?_ (fun hHeld => ?_)
        · (try dsimp only); exact ⟨(World.cell?_alloc_lt _ _ _ hN5).trans hHeld.1, (World.cell?_alloc_lt _ _ _ hN5).trans hHeld.2.1, (H5.out.1.alloc _).c0⟩
        clear hK K
        try simp only [Act.put, List.getElem_toArray, List.getElem_cons_zero, List.getElem_cons_succ, List.setIfInBounds_toArray, List.set_cons_zero, List.set_cons_succ]
        refine wpAnyH_ready (rs := [10]) (by kernel_rfl) (by simp) ?_
        refine AllReadyH.cons rfl (fun K hK => ?_) AllReadyH.nil
        go_simp
        refine hK.out _ _ ?_ (fun hHeld => ?_)
        · (try dsimp only); exact ⟨(World.cell?_alloc_lt _ _ _ hN5).trans H5.out.2.1.1, (World.cell?_alloc_lt _ _ _ hN5).trans H5.out.2.1.2, (H5.out.1.alloc _).c0⟩
        clear hK K
        try simp only [Act.put, List.getElem_toArray, List.getElem_cons_zero, List.getElem_cons_succ, List.setIfInBounds_toArray, List.set_cons_zero, List.set_cons_succ]
        refine wpAnyH_done (by kernel_rfl) ?_ _
        have hF1 := C3.new w5 d i (q + 1) 27
        have hF2 := H5.out.1.alloc (.cells #[.int .i64 d, .int .i64 i, .int .i64 (q + 1)] 27)
        have hF3 : C2 N d i (w5.alloc (.cells #[.int .i64 d, .int .i64 i, .int .i64 (q + 1)] 27)) := ⟨(World.cell?_alloc_lt _ _ _ hN5).trans H5.out.2.1.1, (World.cell?_alloc_lt _ _ _ hN5).trans H5.out.2.1.2⟩
        have hF4 : Ch (fun k => k = b ∨ k = g) w (w5.alloc (.cells #[.int .i64 d, .int .i64 i, .int .i64 (q + 1)] 27)) := H5.out.2.2.trans (Ch.alloc_ (fun k => k = b ∨ k = g) _ _) (fun k _ h => h)
        have HF := Lib.hid (And.intro hF1 (And.intro hF2 (And.intro hF3 hF4)))
        clear hF1 hF2 hF3 hF4
        go_wp2
        go_meet
        exact ⟨w5.heap.size, rfl, HF.out.1, HF.out.2.1, HF.out.2.2.1, HF.out.2.2.2⟩
      · skip
        go_simp
        refine hK.out _ _ ?_ (fun hHeld => ?_)
        · (try dsimp only); exact ⟨(World.cell?_alloc_lt _ _ _ (show N < wr.heap.size from hNr)).trans HI.out.2.1.1, (World.cell?_alloc_lt _ _ _ (show N < wr.heap.size from hNr)).trans HI.out.2.1.2, (HI.out.1.drew.alloc _).c0⟩
        clear hK K
        try simp only [Act.put, List.getElem_toArray, List.getElem_cons_zero, List.getElem_cons_succ, List.setIfInBounds_toArray, List.set_cons_zero, List.set_cons_succ]
        have Z0 := Lib.hid (And.intro (Whole.new wr.drew 27 #[.int .i64 0, .int .i64 0, .int .i64 0]) (And.intro (HI.out.1.drew.alloc (.cells #[.int .i64 0, .int .i64 0, .int .i64 0] 27)) (HI.out.2.2.1.drew.trans (Ch.alloc_ (fun k => k = b ∨ k = g) wr.drew (.cells #[.int .i64 0, .int .i64 0, .int .i64 0] 27)) (fun k _ h => h))))
        have hZ : N < (wr.drew.alloc (.cells #[.int .i64 0, .int .i64 0, .int .i64 0] 27)).heap.size := by simp; omega
        have HZ := Lib.hid hZ
        clear hZ
        refine wpAnyH_ready (rs := [6]) (by kernel_rfl) (by simp) ?_
        refine AllReadyH.cons rfl (fun K hK => ?_) AllReadyH.nil
        go_simp
        refine (CX.out _ Z0.out.2.1.vec).mono ?_; rintro e w5 ⟨rfl, b5⟩
        go_wp2_with fail
        refine hK.out _ _ ?_ (fun hHeld => ?_)
        · (try dsimp only); exact ⟨(b5.cell (by have := HZ.out; exact this)).trans hHeld.1, (b5.cell (by have := HZ.out; exact this)).trans hHeld.2.1, (Z0.out.2.1.up b5).c0⟩
        clear hK K
        try simp only [Act.put, List.getElem_toArray, List.getElem_cons_zero, List.getElem_cons_succ, List.setIfInBounds_toArray, List.set_cons_zero, List.set_cons_succ]
        refine wpAnyH_take (i := 7) (v := ?_) rfl (by kernel_rfl) (by kernel_rfl) (by kernel_rfl) (fun _ _ _ h => h) (Or.inl ⟨by rfl, ?_⟩) (by assumption) ?_
        rotate_left
        first | (focus ((intro w hSw; (try dsimp only at hSw); go_simp); (try with_reducible rfl); done)) | fail
        try simp only [Act.put, List.getElem_toArray, List.getElem_cons_zero, List.getElem_cons_succ, List.setIfInBounds_toArray, List.set_cons_zero, List.set_cons_succ]
        refine wpAnyH_take (i := 8) (v := ?_) rfl (by kernel_rfl) (by kernel_rfl) (by kernel_rfl) (fun _ _ _ h => h) (Or.inl ⟨by rfl, ?_⟩) (by assumption) ?_
        rotate_left
        first | (focus ((intro w hSw; (try dsimp only at hSw); go_simp); (try with_reducible rfl); done)) | fail
        try simp only [Act.put, List.getElem_toArray, List.getElem_cons_zero, List.getElem_cons_succ, List.setIfInBounds_toArray, List.set_cons_zero, List.set_cons_succ]
        have hWP := Z0.out.1.below b5 Z0.out.1.lt
        have H5 := Lib.hid (And.intro (Z0.out.2.1.up b5) (And.intro (show C2 N d i w5 from ⟨hHeld.1, hHeld.2.1⟩) (And.intro (Z0.out.2.2.trans (below_ch (S := fun k => k = b ∨ k = g) b5) (fun k _ h => h)) hWP)))
        clear b5 hWP
        generalize hP : wr.heap.size = P at *
        have hP' : wr.drew.heap.size = P := hP
        have H5' := Lib.hid (hP' ▸ H5.out.2.2.2 : Whole w5 P 27 #[.int .i64 0, .int .i64 0, .int .i64 0])
        have hPs := Lib.hid (And.intro HI.out.1.lts (And.intro HI.out.1.ltv (And.intro HI.out.1.ltb HI.out.1.ltg)))
        have S3 := Lib.hid (set3 (x := .int .i64 d) (y := .int .i64 i) (z := .int .i64 (q + 1)) H5'.out)
        have z0 : w5.cell? ⟨P, 0, none⟩ = some (.int .i64 0) := by rw [H5'.out.cell]; rfl
        have z1 : w5.cell? ⟨P, 1, none⟩ = some (.int .i64 0) := by rw [H5'.out.cell]; rfl
        have z2 : w5.cell? ⟨P, 2, none⟩ = some (.int .i64 0) := by rw [H5'.out.cell]; rfl
        have f0 := H5'.out.free 0
        have f1 := H5'.out.free 1
        have f2 := H5'.out.free 2
        have hls : s < P ∧ v < P ∧ b < P ∧ g < P := by rw [← hP]; exact hPs.out
        have hF2 : SetIs (((w5.setCell ⟨P, 0, none⟩ (.int .i64 d)).setCell ⟨P, 1, none⟩ (.int .i64 i)).setCell ⟨P, 2, none⟩ (.int .i64 (q + 1))) s v b g M1 B1 := H5.out.1.ch S3.out.2 (by omega) (by omega) (by omega) (by omega)
        have hF3 : C2 N d i (((w5.setCell ⟨P, 0, none⟩ (.int .i64 d)).setCell ⟨P, 1, none⟩ (.int .i64 i)).setCell ⟨P, 2, none⟩ (.int .i64 (q + 1))) := H5.out.2.1.blk (S3.out.2.block N (World.block_lt_of_cell? w5 _ H5.out.2.1.1) (by omega))
        have hF4 : Ch (fun k => k = b ∨ k = g) w (((w5.setCell ⟨P, 0, none⟩ (.int .i64 d)).setCell ⟨P, 1, none⟩ (.int .i64 i)).setCell ⟨P, 2, none⟩ (.int .i64 (q + 1))) := H5.out.2.2.1.trans S3.out.2 (fun k hk e => by have e' : k = P := e; have := HI.out.2.2.1.size; omega)
        have HF := Lib.hid (And.intro (C3.of S3.out.1) (And.intro hF2 (And.intro hF3 hF4)))
        clear hF2 hF3 hF4
        refine wpAnyH_ready (rs := [10]) (by kernel_rfl) (by simp) ?_
        refine AllReadyH.cons rfl (fun K hK => ?_) AllReadyH.nil
        go_simp
        refine hK.out _ _ ?_ (fun hHeld => ?_)
        · (try dsimp only); exact ⟨HF.out.2.2.1.1, HF.out.2.2.1.2, HF.out.2.1.c0⟩
        clear hK K
        try simp only [Act.put, List.getElem_toArray, List.getElem_cons_zero, List.getElem_cons_succ, List.setIfInBounds_toArray, List.set_cons_zero, List.set_cons_succ]
        refine wpAnyH_done (by kernel_rfl) ?_ _
        clear z0 z1 z2 f0 f1 f2
        go_wp2
        go_meet
        exact ⟨P, rfl, HF.out.1, HF.out.2.1, HF.out.2.2.1, HF.out.2.2.2⟩
    case rest =>
      obtain ⟨P, rfl, hC3, hS, hC2, hCh⟩ := hcut
      have HC := Lib.hid (And.intro hS (And.intro hC3 (And.intro hC2 hCh)))
      have hdok : dtOk ((d, i), q + 1) := ⟨ok.1, ok.2, wf_of (by omega) (by omega)⟩
      obtain ⟨n, lk⟩ := hS.drew.look hdok
      have hPw : P < wc.heap.size := World.block_lt_of_cell? wc _ hC3.1
      obtain ⟨k0, k1, k2⟩ := hC3
      have l1 := hS.c1
      have hrs := Lib.hid HI.out.2.2.2
      unfold dtV at lk
      simp only at lk
      clear hS hC2 hCh HI
      by_cases hin : ((d, i), q + 1) ∈ B1
      · rw [decide_eq_true hin] at lk
        have hdis := Lib.hid (And.intro HC.out.1.sb (And.intro HC.out.1.sg (And.intro HC.out.1.vg HC.out.1.ne)))
        have hst := Lib.hid (FillR.step HC.out.1.sw (show q + 1 = mget M1 (d, i) + 1 by rw [HQ.out]) hin)
        have hlen := Lib.hid (filter_lt (p := fun x => decide (x ≠ ((d, i), q + 1))) hin (by simp))
        have htk : takenB M1 ((d, i), q + 1) = true := by
          unfold takenB
          rw [HC.out.1.sw.right _ hin]
          simp [HQ.out]
        have htr : rtake M1 ((d, i), q + 1) = rset M1 (d, i) (q + 1) := by unfold rtake; rw [htk]; rfl
        have CY := Lib.hid (fun W h => CT.out W M1 ((d, i), q + 1) h)
        rw [htk, htr] at CY
        simp only at CY
        obtain ⟨w6, q6, hs6, hc6⟩ := HC.out.1.drew.drew.del hdok 0
        have hPg : P ≠ g := fun e => by
          obtain ⟨es, clock, hb⟩ := map_block HC.out.1.mp
          have h0 := HC.out.2.1.1
          rw [e] at h0
          simp [World.cell?, hb] at h0
        have hPb : P ≠ b := fun e => by
          obtain ⟨es, clock, hb, _⟩ := HC.out.1.vec.2.1.1
          have h0 := HC.out.2.1.1
          rw [e] at h0
          simp [World.cell?, hb] at h0
        have hNg : N ≠ g := fun e => by
          obtain ⟨es, clock, hb⟩ := map_block HC.out.1.mp
          have h0 := HC.out.2.2.1.1
          rw [e] at h0
          simp [World.cell?, hb] at h0
        have hNb : N ≠ b := fun e => by
          obtain ⟨es, clock, hb, _⟩ := HC.out.1.vec.2.1.1
          have h0 := HC.out.2.2.1.1
          rw [e] at h0
          simp [World.cell?, hb] at h0
        have hNw : N < wc.heap.size := World.block_lt_of_cell? wc _ HC.out.2.2.1.1
        have H6 := Lib.hid (And.intro hs6 (And.intro (C3.blk (W := wc.drew.drew) HC.out.2.1 (hc6.block P hPw (by omega))) (And.intro (C2.blk (W := wc.drew.drew) HC.out.2.2.1 (hc6.block N hNw (by omega))) (HC.out.2.2.2.drew.drew.trans hc6 (fun k _ h => .inr h)))))
        have Q6 := Lib.hid q6
        unfold dtV at Q6
        simp only at Q6
        clear hs6 hc6 q6 hin htk htr
        go_wp2_with fail
        go_region
        clear lk l1 k0 k1 k2
        go_wp2_with fail
        refine wp_region_held_drew (S := (fun W => W.cell? ⟨P, 0, none⟩ = some (.int .i64 d) ∧ W.cell? ⟨P, 1, none⟩ = some (.int .i64 i) ∧ W.cell? ⟨P, 2, none⟩ = some (.int .i64 (q + 1)) ∧ W.cell? ⟨s, 1, none⟩ = some (.map (some g)))) (by kernel_rfl) ?_ (fun hHeld => ?_)
        · (try dsimp only); exact ⟨HC.out.2.1.1, HC.out.2.1.2.1, HC.out.2.1.2.2, HC.out.1.c1⟩
        refine wpAnyH_take (i := 0) (v := ?_) rfl (by kernel_rfl) (by kernel_rfl) (by kernel_rfl) (fun _ _ _ h => h) (Or.inl ⟨by rfl, ?_⟩) (by assumption) ?_
        rotate_left
        first | (focus ((intro w hSw; (try dsimp only at hSw); go_simp); (try with_reducible rfl); done)) | fail
        try simp only [Act.put, List.getElem_toArray, List.getElem_cons_zero, List.setIfInBounds_toArray, List.set_cons_zero, List.set_cons_succ]
        refine wpAnyH_take (i := 1) (v := ?_) rfl (by kernel_rfl) (by kernel_rfl) (by kernel_rfl) (fun _ _ _ h => h) (Or.inl ⟨by rfl, ?_⟩) (by assumption) ?_
        rotate_left
        first | (focus ((intro w hSw; (try dsimp only at hSw); go_simp); (try with_reducible rfl); done)) | fail
        try simp only [Act.put, List.getElem_toArray, List.getElem_cons_zero, List.getElem_cons_succ, List.setIfInBounds_toArray, List.set_cons_zero, List.set_cons_succ]
        refine wpAnyH_take (i := 2) (v := ?_) rfl (by kernel_rfl) (by kernel_rfl) (by kernel_rfl) (fun _ _ _ h => h) (Or.inl ⟨by rfl, ?_⟩) (by assumption) ?_
        rotate_left
        first | (focus ((intro w hSw; (try dsimp only at hSw); go_simp); (try with_reducible rfl); done)) | fail
        try simp only [Act.put, List.getElem_toArray, List.getElem_cons_zero, List.getElem_cons_succ, List.setIfInBounds_toArray, List.set_cons_zero, List.set_cons_succ]
        refine wpAnyH_take (i := 3) (v := ?_) rfl (by kernel_rfl) (by kernel_rfl) (by kernel_rfl) (fun _ _ _ h => h) (Or.inl ⟨by rfl, ?_⟩) (by assumption) ?_
        rotate_left
        first | (focus ((intro w hSw; (try dsimp only at hSw); go_simp); (try with_reducible rfl); done)) | fail
        try simp only [Act.put, List.getElem_toArray, List.getElem_cons_zero, List.getElem_cons_succ, List.setIfInBounds_toArray, List.set_cons_zero, List.set_cons_succ]
        refine wpAnyH_take (i := 4) (v := ?_) rfl (by kernel_rfl) (by kernel_rfl) (by kernel_rfl) (fun _ _ _ h => h) (Or.inl ⟨by rfl, ?_⟩) (by assumption) ?_
        rotate_left
        first | (focus ((intro w hSw; (try dsimp only at hSw); go_simp); (try with_reducible rfl); done)) | fail
        try simp only [Act.put, List.getElem_toArray, List.getElem_cons_zero, List.getElem_cons_succ, List.setIfInBounds_toArray, List.set_cons_zero, List.set_cons_succ]
        refine wpAnyH_ready (rs := [5]) (by kernel_rfl) (by simp) ?_
        refine AllReadyH.cons rfl (fun K hK => ?_) AllReadyH.nil
        refine step_delete_run (by rfl) (.tmp 30) (.tmp 31) _ _ (by rfl) _ _ (by rfl) (by rfl) _ Q6.out ?_
        refine hK.out _ _ ?_ (fun hHeld => ?_)
        · (try dsimp only); exact ⟨H6.out.2.1.1, H6.out.2.1.2.1, H6.out.2.1.2.2, H6.out.1.c1⟩
        clear hK K
        try simp only [Act.put, List.getElem_toArray, List.getElem_cons_zero, List.getElem_cons_succ]
        refine wpAnyH_done (by kernel_rfl) ?_ _
        go_wp2_with fail
        refine wp_region_held_drew (S := (fun W => W.cell? ⟨P, 0, none⟩ = some (.int .i64 d) ∧ W.cell? ⟨P, 1, none⟩ = some (.int .i64 i) ∧ W.cell? ⟨P, 2, none⟩ = some (.int .i64 (q + 1)) ∧ W.cell? ⟨s, 0, none⟩ = some (.pointer (some ⟨v, 0, none⟩)))) (by kernel_rfl) ?_ (fun hHeld => ?_)
        · (try dsimp only); exact ⟨H6.out.2.1.1, H6.out.2.1.2.1, H6.out.2.1.2.2, H6.out.1.c0⟩
        refine wpAnyH_take (i := 0) (v := ?_) rfl (by kernel_rfl) (by kernel_rfl) (by kernel_rfl) (fun _ _ _ h => h) (Or.inl ⟨by rfl, ?_⟩) (by assumption) ?_
        rotate_left
        first | (focus ((intro w hSw; (try dsimp only at hSw); go_simp); (try with_reducible rfl); done)) | fail
        try simp only [Act.put, List.getElem_toArray, List.getElem_cons_zero, List.setIfInBounds_toArray, List.set_cons_zero, List.set_cons_succ]
        refine wpAnyH_take (i := 1) (v := ?_) rfl (by kernel_rfl) (by kernel_rfl) (by kernel_rfl) (fun _ _ _ h => h) (Or.inl ⟨by rfl, ?_⟩) (by assumption) ?_
        rotate_left
        first | (focus ((intro w hSw; (try dsimp only at hSw); go_simp); (try with_reducible rfl); done)) | fail
        try simp only [Act.put, List.getElem_toArray, List.getElem_cons_zero, List.getElem_cons_succ, List.setIfInBounds_toArray, List.set_cons_zero, List.set_cons_succ]
        refine wpAnyH_take (i := 2) (v := ?_) rfl (by kernel_rfl) (by kernel_rfl) (by kernel_rfl) (fun _ _ _ h => h) (Or.inl ⟨by rfl, ?_⟩) (by assumption) ?_
        rotate_left
        first | (focus ((intro w hSw; (try dsimp only at hSw); go_simp); (try with_reducible rfl); done)) | fail
        try simp only [Act.put, List.getElem_toArray, List.getElem_cons_zero, List.getElem_cons_succ, List.setIfInBounds_toArray, List.set_cons_zero, List.set_cons_succ]
        refine wpAnyH_take (i := 3) (v := ?_) rfl (by kernel_rfl) (by kernel_rfl) (by kernel_rfl) (fun _ _ _ h => h) (Or.inl ⟨by rfl, ?_⟩) (by assumption) ?_
        rotate_left
        first | (focus ((intro w hSw; (try dsimp only at hSw); go_simp); (try with_reducible rfl); done)) | fail
        try simp only [Act.put, List.getElem_toArray, List.getElem_cons_zero, List.getElem_cons_succ, List.setIfInBounds_toArray, List.set_cons_zero, List.set_cons_succ]
        refine wpAnyH_take (i := 4) (v := ?_) rfl (by kernel_rfl) (by kernel_rfl) (by kernel_rfl) (fun _ _ _ h => h) (Or.inl ⟨by rfl, ?_⟩) (by assumption) ?_
        rotate_left
        first | (focus ((intro w hSw; (try dsimp only at hSw); go_simp); (try with_reducible rfl); done)) | fail
        try simp only [Act.put, List.getElem_toArray, List.getElem_cons_zero, List.getElem_cons_succ, List.setIfInBounds_toArray, List.set_cons_zero, List.set_cons_succ]
        have hP6 : P < w6.heap.size := World.block_lt_of_cell? w6 _ H6.out.2.1.1
        have hN6 : N < w6.heap.size := World.block_lt_of_cell? w6 _ H6.out.2.2.1.1
        refine wpAnyH_ready (rs := [5]) (by kernel_rfl) (by simp) ?_
        refine AllReadyH.cons rfl (fun K hK => ?_) AllReadyH.nil
        go_simp
        refine (CY.out _ H6.out.1.drew.vec).mono ?_; rintro e w7 ⟨rfl, hv7, hc7⟩
        go_wp2_with fail
        refine hK.out _ _ ?_ (fun hHeld => ?_)
        · (try dsimp only); (have hh := C3.blk (W := w6.drew) H6.out.2.1 (hc7.block P hP6 hPb); exact ⟨hh.1, hh.2.1, hh.2.2, (H6.out.1.drew.base hc7 hv7 hst.out.sw).c0⟩)
        clear hK K
        try simp only [Act.put, List.getElem_toArray, List.getElem_cons_zero, List.getElem_cons_succ, List.setIfInBounds_toArray, List.set_cons_zero, List.set_cons_succ]
        refine wpAnyH_done (by kernel_rfl) ?_ _
        have HF := Lib.hid (And.intro (H6.out.1.drew.base hc7 hv7 hst.out.sw) (And.intro (C2.blk (W := w6.drew) H6.out.2.2.1 (hc7.block N hN6 hNb)) (And.intro (H6.out.2.2.2.drew.trans hc7 (fun k _ h => .inl h)) (hrs.out.trans hst.out))))
        clear hv7 hc7 hHeld
        go_wp2
        go_roundg (B1.filter fun x => decide (x ≠ ((d, i), q + 1))).length
        case measure => rw [HK.out]; exact hlen.out
        case rel => exact ⟨_, _, rfl, HF.out.1, HF.out.2.1, HF.out.2.2.1, HF.out.2.2.2⟩
      · rw [decide_eq_false hin] at lk
        have HE := Lib.hid (show FillEnd w s v b g M B (d, i) (.returned (.tuple #[])) wc.drew from ⟨rfl, M1, B1, hrs.out, by unfold Good; rw [HQ.out]; exact hin, HC.out.1.drew, HC.out.2.2.2.drew⟩)
        clear hin
        go_wp2_with fail
        go_region
        go_wp2
        go_end0
        exact HE.out
end Go.Proofs.Ytailbppddnegoaa
/- Layer 18 (seen): Add, sorted, Base, Beyond. -/
namespace Go.Proofs.Ytailbppddnegoaa
open Go.RowKit
set_option linter.unusedVariables false
set_option maxRecDepth 100000
attribute [local go_sem ↓] Go.wp_at_zero Go.wp_at_succ

/-- What adding leaves, where the set is the dots L. -/
def AddEnd (w : World) (s v b g : Nat) (L : List Dt) (r : Bool) (e : Ending) (w' : World) : Prop :=
  e = .returned (.bool r) ∧ ∃ M' B', SetL M' B' L ∧ SetIs w' s v b g M' B' ∧ Ch (fun k => k = b ∨ k = g) w w'
def addB (L : List Dt) (d : Dt) : Bool := rightD d && !decide (d ∈ L)
theorem SetL.has {M B L : List Dt} (h : SetL M B L) (d : Dt) : hasS M B d = decide (d ∈ L) := by
  rw [Bool.eq_iff_iff, hasS_iff, decide_eq_true_eq, h.mem]
theorem SetL.len {M B L : List Dt} (h : SetL M B L) : B.length ≤ L.length := by
  have := h.beyond
  rw [← this]
  exact List.length_filter_le _ _
set_option maxHeartbeats 2000000 in
theorem ssadd_in (x : Dt) (ok : dtOk x) (w : World) (s v b g : Nat) (M B L : List Dt) (h : SetIs w s v b g M B) (hL : SetL M B L) (hl : L.length ≤ 900000) :
    Calls Try.prog 44 #[.pointer (some ⟨s, 0, none⟩), dtV x] w (AddEnd w s v b g (rAdd L x) (addB L x)) := by
  have CR := Lib.hid (fun W => right_any x.1.1 x.1.2 x.2 W)
  have CH := Lib.hid (fun W (h : SetIs W s v b g M B) => sshas_in x ok W s v b g M B h)
  rw [hL.has] at CH
  have CF := Lib.hid (fun W (B : List Dt) (h : SetIs W s v b g M B) => ssfill_any x.1 ⟨ok.1, ok.2.1⟩ W s v b g M B h)
  have B0 := (Below.refl w.heap.size w).alloc (Nat.le_refl _) (.cells #[.int .i64 x.1.1, .int .i64 x.1.2, .int .i64 x.2] 27)
  have H0 := Lib.hid (And.intro (h.up B0) (And.intro (C3.new w x.1.1 x.1.2 x.2 27) (below_ch (S := fun k => k = b ∨ k = g) B0)))
  have hrd : rightD x = dotB x.1.1 x.1.2 x.2 := rfl
  have HLs := Lib.hid hL
  have HLT := Lib.hid (And.intro h.lts (And.intro h.ltv (And.intro h.ltb h.ltg)))
  have HNE := Lib.hid (And.intro h.sb h.sg)
  have hlB := Lib.hid (show B.length ≤ 1000000 by have := hL.len; omega)
  obtain ⟨⟨d, i⟩, q⟩ := x
  generalize hN : w.heap.size = N at *
  unfold dotV at CR
  unfold dtV at CH
  unfold acV at CF
  unfold dtV
  simp only at H0 hrd CR CF
  clear h B0 hL
  cases hr : rightD ((d, i), q)
  · have hr' : dotB d i q = false := by rw [← hrd]; exact hr
    rw [hr'] at CR
    have e1 : addB L ((d, i), q) = false := by unfold addB; rw [hr]; rfl
    have e2 : rAdd L ((d, i), q) = L := by unfold rAdd; rw [hr]; rfl
    rw [e1, e2]
    have HE := Lib.hid (fun W (b1 : Below _ _ W) => (show AddEnd w s v b g L false (.returned (.bool false)) W from ⟨rfl, M, B, HLs.out, H0.out.1.up b1, H0.out.2.2.trans (below_ch (S := fun k => k = b ∨ k = g) b1) (fun k _ h => h)⟩))
    clear hr hr' e1 e2 hrd
    go_enter Try.func44, Try.ntmps44
    have k0 := H0.out.2.1.1
    have k1 := H0.out.2.1.2.1
    have k2 := H0.out.2.1.2.2
    go_wp2_with fail
    refine (CR.out _).mono ?_; rintro e w1 ⟨rfl, b1⟩
    have HF := Lib.hid (HE.out _ b1)
    clear b1
    go_wp2
    go_ret
    exact HF.out
  · have hr' : dotB d i q = true := by rw [← hrd]; exact hr
    rw [hr'] at CR
    by_cases hin : ((d, i), q) ∈ L
    · have e1 : addB L ((d, i), q) = false := by unfold addB; rw [hr, decide_eq_true hin]; rfl
      have e2 : rAdd L ((d, i), q) = L := by rw [rAdd_right HLs.out.dw hr]; exact insD_mem HLs.out.dw.1 hin
      rw [e1, e2]
      rw [decide_eq_true hin] at CH
      have HE := Lib.hid (fun W (b1 : Below (w.alloc (.cells #[.int .i64 d, .int .i64 i, .int .i64 q] 27)).heap.size _ W) => (show AddEnd w s v b g L false (.returned (.bool false)) W from ⟨rfl, M, B, HLs.out, H0.out.1.up b1, H0.out.2.2.trans (below_ch (S := fun k => k = b ∨ k = g) b1) (fun k _ h => h)⟩))
      clear hr hr' e1 e2 hrd hin
      go_enter Try.func44, Try.ntmps44
      have k0 := H0.out.2.1.1
      have k1 := H0.out.2.1.2.1
      have k2 := H0.out.2.1.2.2
      go_wp2_with fail
      generalize (w.alloc (.cells #[.int .i64 d, .int .i64 i, .int .i64 q] 27)) = W at *
      have hNW : N < W.heap.size := World.block_lt_of_cell? W _ H0.out.2.1.1
      refine (CR.out _).mono ?_; rintro e w1 ⟨rfl, b1⟩
      have H1 := Lib.hid (And.intro (H0.out.1.up b1) (And.intro (H0.out.2.1.up hNW b1) b1))
      clear b1 k0 k1 k2
      obtain ⟨k0, k1, k2⟩ := H1.out.2.1
      go_wp2_with fail
      refine (CH.out _ H1.out.1).mono ?_; rintro e w2 ⟨rfl, b2⟩
      have HF := Lib.hid (HE.out _ (H1.out.2.2.trans (below_of_le b2 (by have := H1.out.2.2.size; omega))))
      clear b2
      go_wp2
      go_ret
      exact HF.out
    · have e1 : addB L ((d, i), q) = true := by unfold addB; rw [hr, decide_eq_false hin]; rfl
      have e2 : rAdd L ((d, i), q) = insD L ((d, i), q) := rAdd_right HLs.out.dw hr
      rw [e1, e2]
      rw [decide_eq_false hin] at CH
      have hni := Lib.hid (show ¬ inS M B ((d, i), q) from fun hh => hin ((HLs.out.mem _).2 hh))
      have HR := Lib.hid hr
      clear hr hr' e1 e2 hrd hin
      go_enter Try.func44, Try.ntmps44
      have k0 := H0.out.2.1.1
      have k1 := H0.out.2.1.2.1
      have k2 := H0.out.2.1.2.2
      go_wp2_with fail
      generalize (w.alloc (.cells #[.int .i64 d, .int .i64 i, .int .i64 q] 27)) = W at *
      have hNW : N < W.heap.size := World.block_lt_of_cell? W _ H0.out.2.1.1
      refine (CR.out _).mono ?_; rintro e w1 ⟨rfl, b1⟩
      have H1 := Lib.hid (And.intro (H0.out.1.up b1) (And.intro (H0.out.2.1.up hNW b1) (H0.out.2.2.trans (below_ch (S := fun k => k = b ∨ k = g) b1) (fun k _ h => h))))
      have hN1 : N < w1.heap.size := World.block_lt_of_cell? w1 _ H1.out.2.1.1
      clear b1 k0 k1 k2 H0
      obtain ⟨k0, k1, k2⟩ := H1.out.2.1
      go_wp2_with fail
      refine (CH.out _ H1.out.1).mono ?_; rintro e w2 ⟨rfl, b2⟩
      have H2 := Lib.hid (And.intro (H1.out.1.up b2) (And.intro (H1.out.2.1.up hN1 b2) (H1.out.2.2.trans (below_ch (S := fun k => k = b ∨ k = g) b2) (fun k _ h => h))))
      have hN2 : N < w2.heap.size := World.block_lt_of_cell? w2 _ H2.out.2.1.1
      clear b2 k0 k1 k2 H1
      obtain ⟨w5, q5, hs5, hc5⟩ := H2.out.1.drew.put HR.out hlB.out
      have hNg : N ≠ g := by have := HLT.out; omega
      have H5 := Lib.hid (And.intro hs5 (And.intro (C3.blk (W := w2.drew) H2.out.2.1 (hc5.block N hN2 hNg)) (H2.out.2.2.drew.trans hc5 (fun k _ h => .inr h))))
      have Q5 := Lib.hid q5
      unfold dtV at Q5
      simp only at Q5
      clear hs5 hc5 q5
      go_wp2_with fail
      refine wp_region_held_drew (S := (fun W => W.cell? ⟨N, 0, none⟩ = some (.int .i64 d) ∧ W.cell? ⟨N, 1, none⟩ = some (.int .i64 i) ∧ W.cell? ⟨N, 2, none⟩ = some (.int .i64 q) ∧ W.cell? ⟨s, 1, none⟩ = some (.map (some g)))) (by kernel_rfl) ?_ (fun hHeld => ?_)
      · (try dsimp only); exact ⟨H2.out.2.1.1, H2.out.2.1.2.1, H2.out.2.1.2.2, H2.out.1.c1⟩
      refine wpAnyH_take (i := 0) (v := ?_) rfl (by kernel_rfl) (by kernel_rfl) (by kernel_rfl) (fun _ _ _ h => h) (Or.inl ⟨by rfl, ?_⟩) (by assumption) ?_
      rotate_left
      first | (focus ((intro w hSw; (try dsimp only at hSw); go_simp); (try with_reducible rfl); done)) | fail
      try simp only [Act.put, List.getElem_toArray, List.getElem_cons_zero, List.setIfInBounds_toArray, List.set_cons_zero, List.set_cons_succ]
      refine wpAnyH_take (i := 1) (v := ?_) rfl (by kernel_rfl) (by kernel_rfl) (by kernel_rfl) (fun _ _ _ h => h) (Or.inl ⟨by rfl, ?_⟩) (by assumption) ?_
      rotate_left
      first | (focus ((intro w hSw; (try dsimp only at hSw); go_simp); (try with_reducible rfl); done)) | fail
      try simp only [Act.put, List.getElem_toArray, List.getElem_cons_zero, List.getElem_cons_succ, List.setIfInBounds_toArray, List.set_cons_zero, List.set_cons_succ]
      refine wpAnyH_take (i := 2) (v := ?_) rfl (by kernel_rfl) (by kernel_rfl) (by kernel_rfl) (fun _ _ _ h => h) (Or.inl ⟨by rfl, ?_⟩) (by assumption) ?_
      rotate_left
      first | (focus ((intro w hSw; (try dsimp only at hSw); go_simp); (try with_reducible rfl); done)) | fail
      try simp only [Act.put, List.getElem_toArray, List.getElem_cons_zero, List.getElem_cons_succ, List.setIfInBounds_toArray, List.set_cons_zero, List.set_cons_succ]
      refine wpAnyH_take (i := 3) (v := ?_) rfl (by kernel_rfl) (by kernel_rfl) (by kernel_rfl) (fun _ _ _ h => h) (Or.inl ⟨by rfl, ?_⟩) (by assumption) ?_
      rotate_left
      first | (focus ((intro w hSw; (try dsimp only at hSw); go_simp); (try with_reducible rfl); done)) | fail
      try simp only [Act.put, List.getElem_toArray, List.getElem_cons_zero, List.getElem_cons_succ, List.setIfInBounds_toArray, List.set_cons_zero, List.set_cons_succ]
      refine wpAnyH_take (i := 4) (v := ?_) rfl (by kernel_rfl) (by kernel_rfl) (by kernel_rfl) (fun _ _ _ h => h) (Or.inl ⟨by rfl, ?_⟩) (by assumption) ?_
      rotate_left
      first | (focus ((intro w hSw; (try dsimp only at hSw); go_simp); (try with_reducible rfl); done)) | fail
      try simp only [Act.put, List.getElem_toArray, List.getElem_cons_zero, List.getElem_cons_succ, List.setIfInBounds_toArray, List.set_cons_zero, List.set_cons_succ]
      have q5 := Q5.out
      refine wpAnyH_ready (rs := [5]) (by kernel_rfl) (by simp) ?_
      refine AllReadyH.cons rfl (fun K hK => ?_) AllReadyH.nil
      go_simp
      refine hK.out _ _ ?_ (fun hHeld => ?_)
      · (try dsimp only); exact ⟨H5.out.2.1.1, H5.out.2.1.2.1, H5.out.2.1.2.2, H5.out.1.c1⟩
      clear hK K
      try simp only [Act.put, List.getElem_toArray, List.getElem_cons_zero, List.getElem_cons_succ, List.setIfInBounds_toArray, List.set_cons_zero, List.set_cons_succ]
      clear q5 hHeld
      refine wpAnyH_done (by kernel_rfl) ?_ _
      obtain ⟨k0, k1, k2⟩ := H5.out.2.1
      go_wp2_with fail
      refine (CF.out _ _ H5.out.1).mono ?_; rintro e w6 ⟨rfl, M6, B6, hf6, hg6, hs6, hc6⟩
      have HF := Lib.hid (show AddEnd w s v b g (insD L ((d, i), q)) true (.returned (.bool true)) w6 from ⟨rfl, M6, B6, HLs.out.add HR.out hni.out hf6 hg6, hs6, H5.out.2.2.trans hc6 (fun k _ h => h)⟩)
      clear hf6 hg6 hs6 hc6
      go_wp2
      go_ret
      exact HF.out
end Go.Proofs.Ytailbppddnegoaa
/- Layer 18 (seen): Add of nil, sorted, Base, Beyond. -/
namespace Go.Proofs.Ytailbppddnegoaa
open Go.RowKit
set_option linter.unusedVariables false
set_option maxRecDepth 100000
attribute [local go_sem ↓] Go.wp_at_zero Go.wp_at_succ

theorem ssadd_nil (x : Dt) (w : World) : Calls Try.prog 44 #[.pointer none, dtV x] w fun e w' => e = .returned (.bool false) ∧ Below w.heap.size w w' := by
  have B0 := Lib.hid ((Below.refl w.heap.size w).alloc (Nat.le_refl _) (.cells #[.int .i64 x.1.1, .int .i64 x.1.2, .int .i64 x.2] 27))
  unfold dtV
  go_enter Try.func44, Try.ntmps44
  go_wp2
  go_ret
  exact ⟨rfl, B0.out⟩
theorem dtOk_right {d : Dt} (hr : rightD d = true) : dtOk d := by
  have hb := (rightD_iff _).1 hr
  exact ⟨wf_of (by omega) (by omega), wf_of (by omega) (by omega), wf_of (by omega) (by omega)⟩
/-- A slice of dots that the call has made. -/
def DotsEnd (w : World) (L : List Dt) (e : Ending) (w' : World) : Prop := ∃ A c, e = .returned (.slice A L.length c) ∧ Own w' w.heap.size 27 3 A L.length c (dts L) ∧ Below w.heap.size w w'
theorem sssorted_any (w : World) (p : Option Addr) (M B : List Dt) (h : SetAt w p M B) (hl : B.length ≤ 1000000) :
    Calls Try.prog 98 #[.pointer p] w (DotsEnd w B) := by
  rcases h with ⟨rfl, rfl, rfl⟩ | ⟨s, v, b, g, rfl, h⟩
  · have H := Lib.hid (show DotsEnd w [] (.returned (.slice none 0 0)) w from ⟨none, 0, rfl, Own.nil_, Below.refl _ _⟩)
    go_enter Try.func98, Try.ntmps98
    go_wp2
    go_ret
    exact H.out
  · have hc := h.c1
    have CK := Lib.hid (callsIn_wide.1 (keysC_dot Fence.wide 5 trivial rfl (some g) w))
    have hc4 : (w.alloc (.cells #[.map (some g)] 122)).cell? ⟨w.heap.size, 0, none⟩ = some (.map (some g)) := by rw [(Whole.new w 122 #[.map (some g)]).cell]; rfl
    have CC := Lib.hid (collectK_dot w.heap.size g (ones B) (w.alloc (.cells #[.map (some g)] 122)) (by simp) hc4 (h.mp.alloc _) (by rw [ones_len]; exact hl))
    have hb4 := Lib.hid ((Below.refl w.heap.size w).alloc (Nat.le_refl _) (.cells #[.map (some g)] 122))
    have HB := Lib.hid (And.intro h.sw hl)
    clear h hc4 hl
    go_enter Try.func98, Try.ntmps98
    go_wp2_with fail
    refine CK.out.mono ?_; rintro e w1 ⟨rfl, rfl⟩
    go_wp2_with fail
    refine CC.out.mono ?_; rintro e w2 ⟨u, ss, rfl, hp, hrow, b2⟩
    obtain ⟨A, c, rfl, ho⟩ := own_slice hrow
    rw [ones_keys] at hp
    have hds : dsort ss = B := dsort_ext HB.out.1.srt fun x => hp.mem_iff
    have CS := Lib.hid (sort_any w2 w2.heap.size A c ss ho.rd (Nat.le_refl _) (fun x hx => dtOk_right (HB.out.1.right x (hp.mem_iff.1 hx))) (by rw [hp.length_eq]; exact HB.out.2))
    rw [hds] at CS
    have B2 := Lib.hid (hb4.out.trans (below_of_le b2 (by simp)))
    clear hb4 CC CK ho hrow b2
    go_wp2_with fail
    refine CS.out.mono ?_; rintro e w3 ⟨A', c', rfl, o3, b3⟩
    have HE := Lib.hid (show DotsEnd w B (.returned (.slice A' B.length c')) w3 from ⟨A', c', rfl, o3.base_le B2.out.size, B2.out.trans (below_of_le b3 B2.out.size)⟩)
    clear o3 b3 CS
    go_wp2
    go_ret
    exact HE.out
theorem ssbeyond_any (w : World) (p : Option Addr) (M B : List Dt) (h : SetAt w p M B) (hl : B.length ≤ 1000000) :
    Calls Try.prog 73 #[.pointer p] w (DotsEnd w B) := by
  have C := Lib.hid (sssorted_any w p M B h hl)
  clear h
  go_enter Try.func73, Try.ntmps73
  go_wp2_with fail
  refine C.out.mono ?_; rintro e w3 ⟨A', c', rfl, o3, b3⟩
  have HE := Lib.hid (show DotsEnd w B (.returned (.slice A' B.length c')) w3 from ⟨A', c', rfl, o3, b3⟩)
  clear o3 b3 C
  go_wp2
  go_ret
  exact HE.out
theorem ssbase_any (w : World) (p : Option Addr) (M B : List Dt) (h : SetAt w p M B) :
    Calls Try.prog 72 #[.pointer p] w (MarksEnd w M) := by
  rcases h with ⟨rfl, rfl, rfl⟩ | ⟨s, v, b, g, rfl, h⟩
  · have H := Lib.hid (show MarksEnd w [] (.returned (.slice none 0 0)) w from ⟨none, 0, rfl, Own.nil_, Below.refl _ _⟩)
    go_enter Try.func72, Try.ntmps72
    go_wp2
    go_ret
    exact H.out
  · have hc := h.c0
    have C := Lib.hid (vcmarks_any w _ M h.vec.at_)
    clear h
    go_enter Try.func72, Try.ntmps72
    go_wp2_with fail
    refine C.out.mono ?_; rintro e w3 ⟨A', c', rfl, o3, b3⟩
    have HE := Lib.hid (show MarksEnd w M (.returned (.slice A' M.length c')) w3 from ⟨A', c', rfl, o3, b3⟩)
    clear o3 b3 C
    go_wp2
    go_ret
    exact HE.out
end Go.Proofs.Ytailbppddnegoaa
