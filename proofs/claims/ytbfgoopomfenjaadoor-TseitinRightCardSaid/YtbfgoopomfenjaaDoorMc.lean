import Derived.Test.YtbfgoopomfenjaaDoorMb
import Derived.Deep.RegionWith
namespace Go.Proofs.YtbfgoopomfenjaaDoor
open Go.RowKit Go.Proofs.YtbfgoopomfenjaaDoorW.PrintWords Go.Proofs.YtbfgoopomfenjaaDoorW.PrintLast Go.Proofs.YtbfgoopomfenjaaDoorW.PrintMore Go.Proofs.YtbfgoopomfenjaaDoor.PTseitinValues
set_option linter.unusedVariables false
set_option linter.unusedSimpArgs false
attribute [local go_sem] World.cell?_alloc_lt min2_int min_two

/-- What lay is as it was, but for E's blocks. -/
structure Upd (E : Nat → Prop) (W W' : World) : Prop where
  os : W'.os = W.os
  tape : W'.tape = W.tape
  output : W'.output = W.output
  size : W.heap.size ≤ W'.heap.size
  block : ∀ i, i < W.heap.size → ¬ E i → W'.heap[i]? = W.heap[i]?
theorem Upd.refl (E : Nat → Prop) (W : World) : Upd E W W := ⟨rfl, rfl, rfl, Nat.le_refl _, fun _ _ _ => rfl⟩
theorem Upd.trans {E : Nat → Prop} {A B C : World} (h : Upd E A B) (k : Upd E B C) : Upd E A C :=
  ⟨k.os.trans h.os, k.tape.trans h.tape, k.output.trans h.output, Nat.le_trans h.size k.size, fun i hi he => (k.block i (Nat.lt_of_lt_of_le hi h.size) he).trans (h.block i hi he)⟩
theorem Upd.mono {E E' : Nat → Prop} {A B : World} (h : Upd E A B) (hE : ∀ i, i < A.heap.size → E i → E' i) : Upd E' A B :=
  ⟨h.os, h.tape, h.output, h.size, fun i hi he => h.block i hi (fun h' => he (hE i hi h'))⟩
theorem Upd.of_below {E : Nat → Prop} {A B : World} (h : Below A.heap.size A B) : Upd E A B := ⟨h.os, h.tape, h.output, h.size, fun i hi _ => h.block i hi⟩
theorem Upd.below {E : Nat → Prop} {A B : World} (h : Upd E A B) {b : Nat} (hb : b ≤ A.heap.size) (hE : ∀ i, E i → b ≤ i) : Below b A B :=
  ⟨h.os, h.tape, h.output, h.size, fun i hi => h.block i (by omega) (fun e => by have := hE i e; omega)⟩
theorem Upd.alloc {E : Nat → Prop} {A W : World} (h : Upd E A W) (o : Obj) : Upd E A (W.alloc o) := h.trans (Upd.of_below (below_alloc (Below.refl _ _) o))
theorem Upd.drew {E : Nat → Prop} {A W : World} (h : Upd E A W) : Upd E A W.drew := h.trans (Upd.of_below (Below.refl _ _).drew)
theorem Upd.setCell {E : Nat → Prop} {A W : World} (h : Upd E A W) {p : Addr} (hp : E p.block) (u : Value) : Upd E A (W.setCell p u) :=
  h.trans ⟨rfl, rfl, rfl, by simp [World.setCell], fun i _ he => Below.heap_setCell W p u i (fun e => he (e ▸ hp))⟩
theorem Upd.grown {E : Nat → Prop} {A W W' : World} (h : Upd E A W) {row : Option Nat} (hg : W.grownBy W' row) (hr : ∀ r, row = some r → r < A.heap.size → E r) : Upd E A W' :=
  ⟨hg.os.trans h.os, hg.tape.trans h.tape, hg.output.trans h.output, Nat.le_trans h.size hg.size, fun i hi he => (hg.block i (Nat.lt_of_lt_of_le hi h.size) (fun e => he (hr i e.symm hi))).trans (h.block i hi he)⟩
theorem Upd.blk {E : Nat → Prop} {A B : World} (h : Upd E A B) {i : Nat} {o : Obj} (hi : A.heap[i]? = some o) (he : ¬ E i) : B.heap[i]? = some o := (h.block i (blk_lt hi) he).trans hi
theorem Upd.boxed {E : Nat → Prop} {A B : World} (h : Upd E A B) {i : Nat} {t : TypeId} {v : Value} (hi : Boxed A i t v) (he : ¬ E i) : Boxed B i t v := h.blk hi he

def Counted (w0 : World) (bN bC n : Nat) (t : S41) (W : World) (e : Ending) (W' : World) : Prop :=
  e = .returned (.tuple #[]) ∧ Boxed W' bN 3 (.int .i64 ((n + csize t : Nat) : Int)) ∧ Upd (fun i => i = bN) W W'
def CNT (w0 : World) (bN bC : Nat) (t : S41) : Prop := ∀ (A : Option Addr) (c : Nat) (B : Option Addr) (d : Nat) (n : Nat) (W : World), P41 w0 t A c B d → Below w0.heap.size w0 W → Boxed W bN 3 (.int .i64 n) →
  Boxed W bC 74 (.func (.func 74) #[] #[.pointer (some ⟨bN, 0, none⟩), .pointer (some ⟨bC, 0, none⟩)]) → n + csize t ≤ 4096 →
  Calls Tryd.prog 74 #[v41 t A c B d, .pointer (some ⟨bN, 0, none⟩), .pointer (some ⟨bC, 0, none⟩)] W (Counted w0 bN bC n t W)

/-- The counter holds base and what the first k weigh. -/
def CntRel {α : Type} (f : α → Nat) (l : List α) (base bN : Nat) (W1 : World) (i : Value) (wr : World) : Prop :=
  ∃ k : Nat, k ≤ l.length ∧ i = .int .i64 k ∧ Boxed wr bN 3 (.int .i64 ((base + sumTo f l k : Nat) : Int)) ∧ Upd (fun i => i = bN) W1 wr
theorem T41.of_blk {w : World} {b : Nat} {t : S41} {A : Option Addr} {c : Nat} {B : Option Addr} {d : Nat} (hw : w.heap[b]? = some (.cells (c41 t A c B d) 41 (0, 0))) (hP : P41 w t A c B d) : T41 w ⟨b, 0, none⟩ t A c B d :=
  ⟨blk_cell hw 0, blk_cell hw 1, blk_cell hw 2, blk_cell hw 3, blk_cell hw 4, hP⟩

set_option maxRecDepth 100000 in
set_option maxHeartbeats 2000000 in
theorem count_step (w0 : World) (bN bC : Nat) (hbN : w0.heap.size ≤ bN) (hne : bN ≠ bC) (t : S41) (ih : ∀ (k : Nat) (x : S41), t.f4[k]? = some x → CNT w0 bN bC x) : CNT w0 bN bC t := by
  intro A c B d n W hP hB hN hC hs
  have HIH := Aside0.mk ih
  have HNE := Aside0.mk hne
  have HT : Aside0 (csize t = 1 + (t.f3.map tsize).sum + (t.f4.map csize).sum) := ⟨by rw [csize_eq, sizeL_sum, csizeL_sum]⟩
  have hs1 : n + 1 + (t.f3.map tsize).sum + (t.f4.map csize).sum ≤ 4096 := by have := HT.out; omega
  have hla := hP.C1.2.1
  have hlb := hP.C2.2.1
  have X : (W.alloc (.cells (c41 t A c B d) 41)).heap[W.heap.size]? = some (.cells (c41 t A c B d) 41 (0, 0)) := blk_new _ _
  have hNlt := hN.lt
  have hbN0 : W.cell? ⟨bN, 0, none⟩ = some (.int .i64 n) := hN.cell
  have hbNf : W.frozen? ⟨bN, 0, none⟩ = false := hN.frozen
  clear ih hs hne
  go_enter Tryd.func74, Tryd.ntmps74
  go_wp2_with fail
  have U1 : Upd (fun i => i = bN) W ((W.setCell ⟨bN, 0, none⟩ (.int .i64 ((n : Int) + 1))).alloc (.cells (c41 t A c B d) 41)) := ((Upd.refl (fun i => i = bN) _).setCell (p := ⟨bN, 0, none⟩) rfl _).alloc _
  have N1 : Boxed ((W.setCell ⟨bN, 0, none⟩ (.int .i64 ((n : Int) + 1))).alloc (.cells (c41 t A c B d) 41)) bN 3 (.int .i64 ((n + 1 : Nat) : Int)) := (hN.set _).alloc _
  have X1 : ((W.setCell ⟨bN, 0, none⟩ (.int .i64 ((n : Int) + 1))).alloc (.cells (c41 t A c B d) 41)).heap[W.heap.size]? = some (.cells (c41 t A c B d) 41 (0, 0)) := by
    have := blk_new (W.setCell ⟨bN, 0, none⟩ (.int .i64 ((n : Int) + 1))) (.cells (c41 t A c B d) 41)
    rwa [show (W.setCell ⟨bN, 0, none⟩ (.int .i64 ((n : Int) + 1))).heap.size = W.heap.size by simp [World.setCell]] at this
  generalize hW1 : (W.setCell ⟨bN, 0, none⟩ (.int .i64 ((n : Int) + 1))).alloc (.cells (c41 t A c B d) 41) = W1 at *
  have HU1 := Aside0.mk U1
  have C1 := U1.boxed hC (Ne.symm HNE.out)
  have HB1 : Aside0 (Below w0.heap.size w0 W1) := ⟨hB.trans (U1.below hB.size (fun i e => by omega))⟩
  clear hW1 X hbN0 hbNf U1 hN hC
  go_loopw [5, 13] (fun _ i wr => CntRel tsize t.f3 (n + 1) bN W1 i wr) (fun _ i _ => t.f3.length - (intOf i).toNat)
  case atStart => exact ⟨0, Nat.zero_le _, rfl, by simpa [sumTo] using N1, Upd.refl _ _⟩
  case round =>
    obtain ⟨k, hk, rfl, hN, hU⟩ := hrel
    have HU := Aside0.mk hU
    have HBr : Aside0 (Below w0.heap.size w0 wr) := ⟨HB1.out.trans (hU.below HB1.out.size (fun i e => by omega))⟩
    clear hU
    by_cases hlt : k < t.f3.length
    · obtain ⟨x, ad, A3, c3, hx, rfl, Z0⟩ := at82 hP.C1 k hlt
      have Z := Z0.below HBr.out
      obtain ⟨z0, z1, z2, z3, zl0, zln⟩ := Z.cells
      have HS := Aside0.mk (sumTo_step tsize hx)
      have hle : n + 1 + sumTo tsize t.f3 (k + 1) ≤ 4096 := by have := sumTo_le tsize t.f3 (k + 1); omega
      rw [HS.out] at hle
      have hx4 : tsize x ≤ 4096 := by omega
      clear hx Z0
      have n0 := hN.cell
      have nf := hN.frozen
      have nlt := hN.lt
      have nln : ∀ q, bN < wr.heap.size + q := fun q => by omega
      have hleb : decide (((n + 1 + sumTo tsize t.f3 k : Nat) : Int) ≤ 4096) = true := decide_eq_true (by omega)
      generalize hr : n + 1 + sumTo tsize t.f3 k = r at *
      have hr2 : r + tsize x ≤ 4096 := by omega
      go_wp2_with fail
      have HZ : Aside0 (k82.C (wr.alloc (.cells #[.int .i64 x.f0, .string x.f1, .int .i64 x.f2, .slice A3 x.f3.length c3] 82)).drew A3 x.f3.length x.f3) := ⟨Kd.C_drew (Kd.C_below Z.C (below_alloc (Below.refl _ _) _))⟩
      go_region_with (go_at_call 75; refine (term_size x A3 c3 _ hx4 Z.le HZ.out).mono ?_; rintro e w1 ⟨rfl, hb⟩; have N1 : Boxed w1 bN 3 (.int .i64 (r : Int)) := (hb.block bN (by simp; omega)).trans (hN.alloc _); have n1 := N1.cell; have f1 := N1.frozen)
      all_goals go_wp2_with fail
      all_goals (refine ⟨⟨k + 1, by omega, by go_num, ?_, (HU.out.trans ((Upd.of_below (below_alloc (Below.refl _ _) _)).trans (((Upd.refl (fun i => i = bN) _).drew.trans ((Upd.of_below hb).mono (fun _ _ h => h))).trans ((Upd.refl (fun i => i = bN) _).setCell (p := ⟨bN, 0, none⟩) rfl _))))⟩, by simp [intOf]; omega⟩)
      all_goals (rw [HS.out, ← Nat.add_assoc, hr]; exact N1.set _)
    · have hk2 : k = t.f3.length := by omega
      subst hk2
      obtain ⟨wo, rfl⟩ : ∃ wo : World, wo = wr := ⟨_, rfl⟩
      have HTn := Aside0.mk (sumTo_all tsize t.f3)
      have hltb : decide (t.f3.length < t.f3.length) = false := decide_eq_false hlt
      have X2 := HU.out.blk X1 (by omega : ¬ W.heap.size = bN)
      have x4 : wo.cell? ⟨W.heap.size, 4, none⟩ = some (.slice B t.f4.length d) := blk_cell X2 4
      go_wp2_with fail
      rw [HTn.out] at hN
      have HU2 := Aside0.mk (HU1.out.trans HU.out)
      have C2 := HU.out.boxed C1 (Ne.symm HNE.out)
      clear HTn HU C1 HU1 X1 x4 HB1 N1 hlt hltb hk
      go_loopw [7, 27] (fun _ i wx => CntRel csize t.f4 (n + 1 + (t.f3.map tsize).sum) bN wo i wx) (fun _ i _ => t.f4.length - (intOf i).toNat)
      case atStart => exact ⟨0, Nat.zero_le _, rfl, by simpa [sumTo] using hN, Upd.refl _ _⟩
      case round =>
        obtain ⟨j, hj, rfl, hN5, hU5⟩ := hrel
        have HU5 := Aside0.mk hU5
        have HB5 : Aside0 (Below w0.heap.size w0 wr) := ⟨HBr.out.trans (hU5.below HBr.out.size (fun i e => by omega))⟩
        have C5 := hU5.boxed C2 (Ne.symm HNE.out)
        clear hU5
        by_cases hlt : j < t.f4.length
        · obtain ⟨x, ad, A3, c3, B3, d3, hx, rfl, Z0⟩ := at41 hP.C2 j hlt
          have Z := Z0.below HB5.out
          obtain ⟨z0, z1, z2, z3, z4, zl0, zln⟩ := Z.cells
          have HS := Aside0.mk (sumTo_step csize hx)
          have hle : n + 1 + (t.f3.map tsize).sum + sumTo csize t.f4 (j + 1) ≤ 4096 := by have := sumTo_le csize t.f4 (j + 1); omega
          rw [HS.out] at hle
          have HX := HIH.out j x hx
          have HX := Aside0.mk HX
          clear hx
          have n0 := hN5.cell
          have c0 := C5.cell
          have nlt := hN5.lt
          have nln : ∀ q, bN < wr.heap.size + q := fun q => by omega
          have clt := C5.lt
          have cln : ∀ q, bC < wr.heap.size + q := fun q => by omega
          have hleb : decide (((n + 1 + (t.f3.map tsize).sum + sumTo csize t.f4 j : Nat) : Int) ≤ 4096) = true := decide_eq_true (by omega)
          have HZ0 := Aside0.mk Z0
          clear Z0
          generalize hr : n + 1 + (t.f3.map tsize).sum + sumTo csize t.f4 j = r at *
          go_wp2_with (first | (go_at_call 74; refine (HX.out A3 c3 B3 d3 r _ HZ0.out.P (HB5.out.alloc HB5.out.size _) (hN5.alloc _) (C5.alloc _) (by omega)).mono ?_; rintro e w1 ⟨rfl, hn1, hu1⟩; have HN1 := Aside0.mk hn1; have HU1 := Aside0.mk hu1; clear hn1 hu1))
          have HUF := Aside0.mk (HU5.out.trans ((Upd.of_below (below_alloc (Below.refl _ _) (.cells (c41 x A3 c3 B3 d3) 41))).trans HU1.out))
          refine ⟨?_, by simp [intOf]; omega⟩
          refine ⟨j + 1, by omega, by go_num, ?_, HUF.out⟩
          have hx1 : n + 1 + (t.f3.map tsize).sum + sumTo csize t.f4 (j + 1) = r + csize x := by rw [HS.out]; omega
          rw [hx1]; exact HN1.out
        · have hltb : decide (j < t.f4.length) = false := decide_eq_false hlt
          have hk2 : j = t.f4.length := by omega
          subst hk2
          have HTn := Aside0.mk (sumTo_all csize t.f4)
          go_wp2_with fail
          go_end0
          refine ⟨rfl, ?_, HU2.out.trans HU5.out⟩
          rw [HTn.out] at hN5
          rw [HT.out]
          have e1 : n + (1 + (t.f3.map tsize).sum + (t.f4.map csize).sum) = n + 1 + (t.f3.map tsize).sum + (t.f4.map csize).sum := by omega
          rw [e1]; exact hN5


theorem count_all (q : Nat) : ∀ (t : S41), csize t ≤ q → ∀ (w0 : World) (bN bC : Nat), w0.heap.size ≤ bN → bN ≠ bC → CNT w0 bN bC t := by
  induction q with
  | zero => intro t h; rw [csize_eq] at h; omega
  | succ q ih =>
    intro t hq w0 bN bC h1 h2
    exact count_step w0 bN bC h1 h2 t (fun k x hx => ih x (by have := csize_sub hx; omega) w0 bN bC h1 h2)

theorem run_store_fn {P : Program} {w : World} (a : Addr) (m : Mode) (fn : Fn) (first captured : Array Value) : (store a (.func fn first captured) m).run P w = stored P w a (.func fn first captured) m := run_store P w a _ m rfl
attribute [local go_sem] run_store_fn

set_option maxHeartbeats 1000000 in
/-- claim.Size's contract, at claims that are not too big. -/
theorem claim_size (t : S41) (A : Option Addr) (c : Nat) (B : Option Addr) (d : Nat) (w : World) (hs : csize t ≤ 4096) (hP : P41 w t A c B d) :
    Calls Tryd.prog 51 #[v41 t A c B d] w fun e w' => e = .returned (.int .i64 (csize t)) ∧ Below w.heap.size w w' := by
  have HP := Aside0.mk hP
  have hmf : ∀ fn first cap w, (Instr.makeFunc fn first cap).run Tryd.prog w = .ok (.func fn first cap) w := fun _ _ _ _ => rfl
  have B3 : Boxed (((w.alloc (.cells #[.int .i64 t.f0, .string t.f1, .string t.f2, .slice A t.f3.length c, .slice B t.f4.length d] 41)).alloc (.cells #[.int .i64 0] 3)).alloc (.cells #[.nilFunc] 74)) (w.heap.size + 1 + 1) 74 .nilFunc := by
    have := Boxed.new ((w.alloc (.cells #[.int .i64 t.f0, .string t.f1, .string t.f2, .slice A t.f3.length c, .slice B t.f4.length d] 41)).alloc (.cells #[.int .i64 0] 3)) 74 .nilFunc
    rwa [World.size_alloc, World.size_alloc] at this
  have N3 : Boxed (((w.alloc (.cells #[.int .i64 t.f0, .string t.f1, .string t.f2, .slice A t.f3.length c, .slice B t.f4.length d] 41)).alloc (.cells #[.int .i64 0] 3)).alloc (.cells #[.nilFunc] 74)) (w.heap.size + 1) 3 (.int .i64 ((0 : Nat) : Int)) := by
    have := (Boxed.new (w.alloc (.cells #[.int .i64 t.f0, .string t.f1, .string t.f2, .slice A t.f3.length c, .slice B t.f4.length d] 41)) 3 (.int .i64 ((0 : Nat) : Int))).alloc (.cells #[.nilFunc] 74)
    rwa [World.size_alloc] at this
  have hBB : Below w.heap.size w (((w.alloc (.cells #[.int .i64 t.f0, .string t.f1, .string t.f2, .slice A t.f3.length c, .slice B t.f4.length d] 41)).alloc (.cells #[.int .i64 0] 3)).alloc (.cells #[.nilFunc] 74)) := (((Below.refl _ _).alloc (Nat.le_refl _) _).alloc (by simp) _).alloc (by simp; omega) _
  have X3 : (((w.alloc (.cells #[.int .i64 t.f0, .string t.f1, .string t.f2, .slice A t.f3.length c, .slice B t.f4.length d] 41)).alloc (.cells #[.int .i64 0] 3)).alloc (.cells #[.nilFunc] 74)).heap[w.heap.size]? = some (.cells (c41 t A c B d) 41 (0, 0)) := by rw [Below.heap_alloc _ _ _ (by simp; omega), Below.heap_alloc _ _ _ (by simp)]; exact blk_new _ _
  have b3 := B3.cell
  have bf3 := B3.frozen
  go_enter Tryd.func51, Tryd.ntmps51
  go_upto_region 3 with fail
  generalize hW : ((w.alloc (.cells #[.int .i64 t.f0, .string t.f1, .string t.f2, .slice A t.f3.length c, .slice B t.f4.length d] 41)).alloc (.cells #[.int .i64 0] 3)).alloc (.cells #[.nilFunc] 74) = W0 at *
  clear hW
  go_upto_region 4 with fail
  have B4 := B3.set (.func (.func 74) #[] #[.pointer (some ⟨w.heap.size + 1, 0, none⟩), .pointer (some ⟨w.heap.size + 1 + 1, 0, none⟩)])
  have hB4 := hBB.setCell (p := ⟨w.heap.size + 1 + 1, 0, none⟩) (by show w.heap.size ≤ w.heap.size + 1 + 1; omega) (.func (.func 74) #[] #[.pointer (some ⟨w.heap.size + 1, 0, none⟩), .pointer (some ⟨w.heap.size + 1 + 1, 0, none⟩)])
  have N4 := N3.other (B' := w.heap.size + 1 + 1) (by omega) (.func (.func 74) #[] #[.pointer (some ⟨w.heap.size + 1, 0, none⟩), .pointer (some ⟨w.heap.size + 1 + 1, 0, none⟩)])
  have hH : (W0.setCell ⟨w.heap.size + 1 + 1, 0, none⟩ (.func (.func 74) #[] #[.pointer (some ⟨w.heap.size + 1, 0, none⟩), .pointer (some ⟨w.heap.size + 1 + 1, 0, none⟩)])).heap[w.heap.size]? = W0.heap[w.heap.size]? := Below.heap_setCell _ _ _ _ (by show w.heap.size ≠ w.heap.size + 1 + 1; omega)
  have X4 : (W0.setCell ⟨w.heap.size + 1 + 1, 0, none⟩ (.func (.func 74) #[] #[.pointer (some ⟨w.heap.size + 1, 0, none⟩), .pointer (some ⟨w.heap.size + 1 + 1, 0, none⟩)])).heap[w.heap.size]? = some (.cells (c41 t A c B d) 41 (0, 0)) := hH.trans X3
  have x4 := blk_cell X4 0
  have x41 := blk_cell X4 1
  have x42 := blk_cell X4 2
  have x43 := blk_cell X4 3
  have x44 := blk_cell X4 4
  have b4 := B4.cell
  have HP4 := Aside0.mk (hP.below hB4)
  have HC4 := Aside0.mk B4
  have HN4 := Aside0.mk N4
  have HB4 := Aside0.mk hB4
  clear b3 bf3 B3 N3 hBB hH X3 B4 N4 hB4 hP
  generalize hW : W0.setCell ⟨w.heap.size + 1 + 1, 0, none⟩ (.func (.func 74) #[] #[.pointer (some ⟨w.heap.size + 1, 0, none⟩), .pointer (some ⟨w.heap.size + 1 + 1, 0, none⟩)]) = W1 at *
  clear hW
  have HN5 : Aside0 (Boxed W1 (w.heap.size + 1) 3 (.int .i64 ((0 : Nat) : Int))) := HN4
  have hmin : min (csize t) 4097 = csize t := by omega
  go_wp2_with (first | (go_at_call 74; refine (count_all _ t (Nat.le_refl _) w (w.heap.size + 1) (w.heap.size + 1 + 1) (by omega) (by omega) A c B d 0 _ HP.out HB4.out HN5.out HC4.out (by omega)).mono ?_; rintro e w1 ⟨rfl, hn1, hu1⟩; have n1 := hn1.cell; have HU1 := Aside0.mk hu1; clear hn1 hu1; rw [Nat.zero_add] at n1))
  go_ret
  exact ⟨rfl, HB4.out.trans (HU1.out.below HB4.out.size (fun i e => by omega))⟩

end Go.Proofs.YtbfgoopomfenjaaDoor
namespace Go.Proofs.YtbfgoopomfenjaaDoor
open Go.RowKit Go.Proofs.YtbfgoopomfenjaaDoorW.PrintWords Go.Proofs.YtbfgoopomfenjaaDoor.PTseitinValues
set_option linter.unusedVariables false
set_option linter.unusedSimpArgs false
attribute [local go_sem] World.cell?_alloc_lt

/-- How many terms, how many claims an operation wants. -/
def caN (op : Int) : Int := if op = 3 then -1 else if op = 4 ∨ op = 5 then 2 else 0
def csN (op : Int) : Int := if op = 6 ∨ op = 11 ∨ op = 12 then 1 else if op = 7 ∨ op = 8 ∨ op = 9 ∨ op = 10 then 2 else 0
def cform (t : S41) : Bool := decide (t.f0 < 1) || decide (12 < t.f0) || (!t.f1.toList.isEmpty && t.f0 != 3 && !bind t.f0) || (!t.f2.toList.isEmpty && !bind t.f0)
def cari (t : S41) : Bool := (decide (0 ≤ caN t.f0) && (t.f3.length : Int) != caN t.f0) || decide (8 < t.f3.length) || (t.f4.length : Int) != csN t.f0
mutual
def cparts : S41 → Int
  | ⟨o, n, s, ts, us⟩ => if cform ⟨o, n, s, ts, us⟩ = true then 7 else if cari ⟨o, n, s, ts, us⟩ = true then 12 else if firstNZ (ts.map tright) ≠ 0 then firstNZ (ts.map tright) else cpartsL us
def cpartsL : List S41 → Int
  | [] => 0
  | a :: l => if cparts a = 0 then cpartsL l else cparts a
end
theorem cpartsL_eq (l : List S41) : cpartsL l = firstNZ (l.map cparts) := by
  induction l with
  | nil => rfl
  | cons a l ih => rw [cpartsL, ih]; rfl
theorem cparts_eq (t : S41) : cparts t = if cform t = true then 7 else if cari t = true then 12 else if firstNZ (t.f3.map tright) ≠ 0 then firstNZ (t.f3.map tright) else firstNZ (t.f4.map cparts) := by
  cases t; rw [cparts, cpartsL_eq]
def cright (t : S41) : Int := if 64 < cdep 65 t then 6 else if 4096 < csize t then 2 else cparts t

theorem firstNZ_take {α : Type} (f : α → Int) {l : List α} {k : Nat} {x : α} (hx : l[k]? = some x) (h : firstNZ ((l.take k).map f) = 0) : firstNZ ((l.take (k + 1)).map f) = f x := by
  rw [take_snoc hx, List.map_append, firstNZ_append_zero h]
  simp only [List.map_cons, List.map_nil, firstNZ]
  split
  · rename_i h1; exact h1.symm
  · rfl
theorem firstNZ_early {α : Type} (f : α → Int) {l : List α} (k : Nat) (h : firstNZ ((l.take k).map f) ≠ 0) : firstNZ (l.map f) = firstNZ ((l.take k).map f) := by
  have e : l.map f = (l.take k).map f ++ (l.drop k).map f := by rw [← List.map_append, List.take_append_drop]
  rw [e, firstNZ_append_ne h]
/-- No error in the first k. -/
def NoErr {α : Type} (f : α → Int) (l : List α) (w0 : World) (i : Value) (wr : World) : Prop :=
  ∃ k : Nat, k ≤ l.length ∧ i = .int .i64 k ∧ Aside0 (firstNZ ((l.take k).map f) = 0) ∧ Aside0 (Below w0.heap.size w0 wr)
theorem NoErr.start {α : Type} (f : α → Int) (l : List α) (w0 : World) : NoErr f l w0 (.int .i64 0) w0 := ⟨0, Nat.zero_le _, rfl, ⟨rfl⟩, ⟨Below.refl _ _⟩⟩

set_option maxRecDepth 100000 in
set_option maxHeartbeats 2000000 in
theorem claim_arity (op : Int) (w : World) (h1 : 1 ≤ op) (h2 : op ≤ 12) :
    Calls Tryd.prog 77 #[.int .i64 op] w fun e w' => e = .returned (.tuple #[.int .i64 (caN op), .int .i64 (csN op)]) ∧ w = w' := by
  obtain h | h | h | h | h | h | h | h | h | h | h | h : op = 1 ∨ op = 2 ∨ op = 3 ∨ op = 4 ∨ op = 5 ∨ op = 6 ∨ op = 7 ∨ op = 8 ∨ op = 9 ∨ op = 10 ∨ op = 11 ∨ op = 12 := by omega
  all_goals subst h
  all_goals clear h1 h2
  all_goals go_enter Tryd.func77, Tryd.ntmps77
  all_goals go_wp2
  all_goals exact bodyPost_ret (by simp [results, Tryd.results77, go_sem]; (first | exact ⟨rfl, rfl⟩ | rfl)) rfl ⟨rfl, rfl⟩

/-- What part's contract says. -/
def CP (t : S41) : Prop := ∀ (A : Option Addr) (c : Nat) (B : Option Addr) (d : Nat) (w : World), csize t ≤ 4096 → P41 w t A c B d → Needs w →
  Calls Tryd.prog 52 #[v41 t A c B d] w fun e w' => e = .returned (.int .i64 (cparts t)) ∧ Below w.heap.size w w'

set_option maxRecDepth 100000 in
set_option maxHeartbeats 2000000 in
theorem cpart_step (t : S41) (ih : ∀ (k : Nat) (x : S41), t.f4[k]? = some x → CP x) : CP t := by
  intro A c B d w hs hP hN
  have HIH := Aside0.mk ih
  have HE := Aside0.mk (cparts_eq t)
  have HT : Aside0 (csize t = 1 + (t.f3.map tsize).sum + (t.f4.map csize).sum) := ⟨by rw [csize_eq, sizeL_sum, csizeL_sum]⟩
  have hla := hP.C1.2.1
  have hlb := hP.C2.2.1
  have hBW : Below w.heap.size w (w.alloc (.cells (c41 t A c B d) 41)) := below_alloc (Below.refl _ _) _
  have X : T41 (w.alloc (.cells (c41 t A c B d) 41)) ⟨w.heap.size, 0, none⟩ t A c B d := T41.mk_box (w := w) (blk_new _ _) hP hBW
  have HN := Aside0.mk hN
  have HBW := Aside0.mk hBW
  have HS := Aside0.mk hs
  clear ih hs hP hN hBW
  go_enter Tryd.func52, Tryd.ntmps52
  go_upto_region 1 with fail
  generalize hW : w.alloc (.cells (c41 t A c B d) 41) = W0 at *
  clear hW
  generalize w.heap.size = N at X
  rename_i K0 hK0
  obtain ⟨h0, h1, h2, h3, h4, hl0, hln⟩ := X.box
  go_cut [43] (fun v wx => v = .bool (cform t) ∧ Aside0 (Below W0.heap.size W0 wx))
  case first =>
    have HB : Aside0 (∀ b : Bool, (!b) = !b) := ⟨fun _ => rfl⟩
    by_cases g1 : t.f0 < 1
    · have j1 : decide (t.f0 < 1) = true := decide_eq_true g1
      have HF : Aside0 (cform t = true) := ⟨by unfold cform; simp [g1]⟩
      go_wp2_with (first | (go_at_call 76; refine (binder_any t A c B d _).mono ?_; rintro e w1 ⟨rfl, hb⟩; first | (have X2 := X1.below hb; have hb2 := Aside0.mk (below_step hb1.out hb); clear hb) | (have X1 := X.below hb; obtain ⟨k0, k1, k2, k3, k4, kl0, kln⟩ := X1.box; have hb1 := Aside0.mk hb; clear hb)))
      go_meet
      case rel => exact ⟨congrArg Value.bool HF.out.symm, by first | exact hb2 | exact hb1 | exact ⟨Below.refl _ _⟩⟩
    · have j1 : decide (t.f0 < 1) = false := decide_eq_false g1
      by_cases g2 : 12 < t.f0
      · have j2 : decide (12 < t.f0) = true := decide_eq_true g2
        have HF : Aside0 (cform t = true) := ⟨by unfold cform; simp [g2]⟩
        go_wp2_with (first | (go_at_call 76; refine (binder_any t A c B d _).mono ?_; rintro e w1 ⟨rfl, hb⟩; first | (have X2 := X1.below hb; have hb2 := Aside0.mk (below_step hb1.out hb); clear hb) | (have X1 := X.below hb; obtain ⟨k0, k1, k2, k3, k4, kl0, kln⟩ := X1.box; have hb1 := Aside0.mk hb; clear hb)))
        go_meet
        case rel => exact ⟨congrArg Value.bool HF.out.symm, by first | exact hb2 | exact hb1 | exact ⟨Below.refl _ _⟩⟩
      · have j2 : decide (12 < t.f0) = false := decide_eq_false g2
        have HJ : Aside0 (decide (t.f0 < 1) = false ∧ decide (12 < t.f0) = false) := ⟨j1, j2⟩
        clear g1 g2
        by_cases n1 : t.f1.toList = []
        · by_cases n2 : t.f2.toList = []
          · have HF : Aside0 (cform t = false) := ⟨by unfold cform; rw [HJ.out.1, HJ.out.2]; simp [n1, n2]⟩
            go_wp2_with (first | (go_at_call 76; refine (binder_any t A c B d _).mono ?_; rintro e w1 ⟨rfl, hb⟩; first | (have X2 := X1.below hb; have hb2 := Aside0.mk (below_step hb1.out hb); clear hb) | (have X1 := X.below hb; obtain ⟨k0, k1, k2, k3, k4, kl0, kln⟩ := X1.box; have hb1 := Aside0.mk hb; clear hb)))
            go_meet
            case rel => exact ⟨congrArg Value.bool HF.out.symm, by first | exact hb2 | exact hb1 | exact ⟨Below.refl _ _⟩⟩
          · have m2 : t.f2.toList.isEmpty = false := by simpa using n2
            have HF : Aside0 (cform t = !bind t.f0) := ⟨by unfold cform; rw [HJ.out.1, HJ.out.2, m2]; simp [n1]⟩
            clear n2
            go_wp2_with (first | (go_at_call 76; refine (binder_any t A c B d _).mono ?_; rintro e w1 ⟨rfl, hb⟩; first | (have X2 := X1.below hb; have hb2 := Aside0.mk (below_step hb1.out hb); clear hb) | (have X1 := X.below hb; obtain ⟨k0, k1, k2, k3, k4, kl0, kln⟩ := X1.box; have hb1 := Aside0.mk hb; clear hb)))
            go_meet
            case rel => exact ⟨congrArg Value.bool HF.out.symm, by first | exact hb2 | exact hb1 | exact ⟨Below.refl _ _⟩⟩
        · have m1 : t.f1.toList.isEmpty = false := by simpa using n1
          clear n1
          by_cases o3 : t.f0 = 3
          · have e3 : (t.f0 != 3) = false := by simpa using o3
            have hbi : Aside0 (bind t.f0 = false) := ⟨by simp [bind, o3]⟩
            clear o3
            by_cases n2 : t.f2.toList = []
            · have HF : Aside0 (cform t = false) := ⟨by unfold cform; rw [HJ.out.1, HJ.out.2, m1, e3]; simp [n2]⟩
              go_wp2_with (first | (go_at_call 76; refine (binder_any t A c B d _).mono ?_; rintro e w1 ⟨rfl, hb⟩; first | (have X2 := X1.below hb; have hb2 := Aside0.mk (below_step hb1.out hb); clear hb) | (have X1 := X.below hb; obtain ⟨k0, k1, k2, k3, k4, kl0, kln⟩ := X1.box; have hb1 := Aside0.mk hb; clear hb)))
              go_meet
              case rel => exact ⟨congrArg Value.bool HF.out.symm, by first | exact hb2 | exact hb1 | exact ⟨Below.refl _ _⟩⟩
            · have m2 : t.f2.toList.isEmpty = false := by simpa using n2
              have HF : Aside0 (cform t = !bind t.f0) := ⟨by unfold cform; rw [HJ.out.1, HJ.out.2, m1, m2, e3]; simp⟩
              clear n2
              go_wp2_with (first | (go_at_call 76; refine (binder_any t A c B d _).mono ?_; rintro e w1 ⟨rfl, hb⟩; first | (have X2 := X1.below hb; have hb2 := Aside0.mk (below_step hb1.out hb); clear hb) | (have X1 := X.below hb; obtain ⟨k0, k1, k2, k3, k4, kl0, kln⟩ := X1.box; have hb1 := Aside0.mk hb; clear hb)))
              go_meet
              case rel => exact ⟨congrArg Value.bool HF.out.symm, by first | exact hb2 | exact hb1 | exact ⟨Below.refl _ _⟩⟩
          · have e3 : (t.f0 != 3) = true := by simpa using o3
            clear o3
            by_cases hbi : bind t.f0 = true
            · have HF : Aside0 (cform t = false) := ⟨by unfold cform; rw [HJ.out.1, HJ.out.2, hbi]; simp⟩
              by_cases n2 : t.f2.toList = []
              · go_wp2_with (first | (go_at_call 76; refine (binder_any t A c B d _).mono ?_; rintro e w1 ⟨rfl, hb⟩; first | (have X2 := X1.below hb; have hb2 := Aside0.mk (below_step hb1.out hb); clear hb) | (have X1 := X.below hb; obtain ⟨k0, k1, k2, k3, k4, kl0, kln⟩ := X1.box; have hb1 := Aside0.mk hb; clear hb)))
                go_meet
                case rel => exact ⟨congrArg Value.bool HF.out.symm, by first | exact hb2 | exact hb1 | exact ⟨Below.refl _ _⟩⟩
              · have m2 : t.f2.toList.isEmpty = false := by simpa using n2
                clear n2
                go_wp2_with (first | (go_at_call 76; refine (binder_any t A c B d _).mono ?_; rintro e w1 ⟨rfl, hb⟩; first | (have X2 := X1.below hb; have hb2 := Aside0.mk (below_step hb1.out hb); clear hb) | (have X1 := X.below hb; obtain ⟨k0, k1, k2, k3, k4, kl0, kln⟩ := X1.box; have hb1 := Aside0.mk hb; clear hb)))
                go_meet
                case rel => exact ⟨congrArg Value.bool HF.out.symm, by first | exact hb2 | exact hb1 | exact ⟨Below.refl _ _⟩⟩
            · have hbi : bind t.f0 = false := by simpa using hbi
              have HF : Aside0 (cform t = true) := ⟨by unfold cform; rw [HJ.out.1, HJ.out.2, hbi, m1, e3]; simp⟩
              go_wp2_with (first | (go_at_call 76; refine (binder_any t A c B d _).mono ?_; rintro e w1 ⟨rfl, hb⟩; first | (have X2 := X1.below hb; have hb2 := Aside0.mk (below_step hb1.out hb); clear hb) | (have X1 := X.below hb; obtain ⟨k0, k1, k2, k3, k4, kl0, kln⟩ := X1.box; have hb1 := Aside0.mk hb; clear hb)))
              go_meet
              case rel => exact ⟨congrArg Value.bool HF.out.symm, by first | exact hb2 | exact hb1 | exact ⟨Below.refl _ _⟩⟩
  case rest =>
    obtain ⟨rfl, HB1⟩ := hcut
    refine hK0 _ _ ?_
    clear hK0
    have X1 := X.below HB1.out
    have HB2 := Aside0.mk (below_step HBW.out HB1.out)
    clear X HB1 HBW h0 h1 h2 h3 h4 hl0 hln
    obtain ⟨h0, h1, h2, h3, h4, hl0, hln⟩ := X1.box
    by_cases hf : cform t = true
    · have HR : Aside0 (cparts t = 7) := ⟨by rw [HE.out, if_pos hf]⟩
      clear HE
      rw [hf]
      go_wp2_with fail
      go_ret
      exact ⟨by rw [HR.out]; rfl, HB2.out⟩
    · have HE2 : Aside0 (cparts t = if cari t = true then 12 else if firstNZ (t.f3.map tright) ≠ 0 then firstNZ (t.f3.map tright) else firstNZ (t.f4.map cparts)) := ⟨by rw [HE.out, if_neg hf]⟩
      have hop : 1 ≤ t.f0 ∧ t.f0 ≤ 12 := by
        have : cform t = false := by simpa using hf
        unfold cform at this
        simp only [Bool.or_eq_false_iff, decide_eq_false_iff_not] at this
        omega
      have hf : cform t = false := by simpa using hf
      clear HE
      have HOP := Aside0.mk hop
      have hlc : csN t.f0 ≤ 2 ∧ 0 ≤ csN t.f0 ∧ -1 ≤ caN t.f0 ∧ caN t.f0 ≤ 2 := by unfold csN caN; (repeat' split) <;> omega
      clear hop
      rw [hf]
      obtain ⟨wq, rfl⟩ : ∃ wq : World, wq = wc := ⟨_, rfl⟩
      go_upto_region 4 with (first | (go_at_call 77; refine (claim_arity t.f0 _ HOP.out.1 HOP.out.2).mono ?_; rintro e w1 ⟨rfl, rfl⟩))
      rename_i K0 hK0
      have HD : Aside0 (cari t = ((decide (0 ≤ caN t.f0) && (t.f3.length : Int) != caN t.f0) || decide (8 < t.f3.length) || (t.f4.length : Int) != csN t.f0)) := ⟨rfl⟩
      obtain ⟨m1, m2, m3, m4⟩ := hlc
      generalize caN t.f0 = ta at *
      generalize csN t.f0 = sa at *
      go_cut [71] (fun v wx => v = .bool (cari t) ∧ wx = wq)
      case first =>
        by_cases q1 : 0 ≤ ta
        · have q1b : decide (0 ≤ ta) = true := decide_eq_true q1
          by_cases q2 : (t.f3.length : Int) = ta
          · have q2b : ((t.f3.length : Int) != ta) = false := by simpa using q2
            have q3 : decide ((8 : Int) < (t.f3.length : Int)) = false := decide_eq_false (by omega)
            have q4 : decide (8 < t.f3.length) = false := decide_eq_false (by omega)
            have HF : Aside0 (cari t = ((t.f4.length : Int) != sa)) := ⟨by rw [HD.out, q1b, q2b, q4]; rfl⟩
            clear q2
            go_wp2_with fail
            go_meet
            case rel => exact ⟨congrArg Value.bool HF.out.symm, rfl⟩
          · have q2b : ((t.f3.length : Int) != ta) = true := by simpa using q2
            have HF : Aside0 (cari t = true) := ⟨by rw [HD.out, q1b, q2b]; rfl⟩
            clear q2
            go_wp2_with fail
            go_meet
            case rel => exact ⟨congrArg Value.bool HF.out.symm, rfl⟩
        · have q1b : decide (0 ≤ ta) = false := decide_eq_false q1
          by_cases q3 : (8 : Int) < t.f3.length
          · have q3b : decide ((8 : Int) < (t.f3.length : Int)) = true := decide_eq_true q3
            have q4b : decide (8 < t.f3.length) = true := decide_eq_true (by omega)
            have HF : Aside0 (cari t = true) := ⟨by rw [HD.out, q1b, q4b]; rfl⟩
            go_wp2_with fail
            go_meet
            case rel => exact ⟨congrArg Value.bool HF.out.symm, rfl⟩
          · have q3b : decide ((8 : Int) < (t.f3.length : Int)) = false := decide_eq_false q3
            have q4b : decide (8 < t.f3.length) = false := decide_eq_false (by omega)
            have HF : Aside0 (cari t = ((t.f4.length : Int) != sa)) := ⟨by rw [HD.out, q1b, q4b]; rfl⟩
            go_wp2_with fail
            go_meet
            case rel => exact ⟨congrArg Value.bool HF.out.symm, rfl⟩
      case rest =>
        obtain ⟨rfl, rfl⟩ := hcut
        refine hK0 _ _ ?_
        clear hK0 HD
        by_cases ha : cari t = true
        · have HR : Aside0 (cparts t = 12) := ⟨by rw [HE2.out, if_pos ha]⟩
          clear HE2
          rw [ha]
          go_wp2_with fail
          go_ret
          exact ⟨by rw [HR.out]; rfl, HB2.out⟩
        · have HE3 : Aside0 (cparts t = if firstNZ (t.f3.map tright) ≠ 0 then firstNZ (t.f3.map tright) else firstNZ (t.f4.map cparts)) := ⟨by rw [HE2.out, if_neg ha]⟩
          have ha : cari t = false := by simpa using ha
          clear HE2
          rw [ha]
          go_wp2_with fail
          have HN1 := Aside0.mk (HN.out.below HB2.out)
          clear HN h0 h1 h2 h3 h4 hl0 hln
          go_loopw [7, 75] (fun _ i wr => NoErr tright t.f3 wc i wr) (fun _ i _ => t.f3.length - (intOf i).toNat)
          case atStart => exact NoErr.start _ _ _
          case round =>
            obtain ⟨k, hk, rfl, HF, HB⟩ := hrel
            have HBr := Aside0.mk (below_step HB2.out HB.out)
            have X2 := X1.below HB.out
            have HN2 := Aside0.mk (HN1.out.below HB.out)
            by_cases hlt : k < t.f3.length
            · have hltb : decide (k < t.f3.length) = true := decide_eq_true hlt
              obtain ⟨x, ad, A3, c3, hx, rfl, Z0⟩ := at82 X1.P.C1 k hlt
              have Z := Z0.below HB.out
              obtain ⟨z0, z1, z2, z3, zl0, zln⟩ := Z.cells
              have HX4 : Aside0 (tsize x ≤ 4096) := ⟨by have h1 := sumTo_step tsize hx; have h2 := sumTo_le tsize t.f3 (k + 1); have := HT.out; have := HS.out; omega⟩
              have HFx := Aside0.mk (firstNZ_take tright hx HF.out)
              clear hx Z0 HF
              by_cases hz : tright x = 0
              · have hzb : (tright x != 0) = false := by simpa using hz
                have HF2 : Aside0 (firstNZ ((t.f3.take (k + 1)).map tright) = 0) := ⟨HFx.out.trans hz⟩
                clear hz
                go_wp2_with (first | (go_at_call 78; refine (term_right x A3 c3 _ HX4.out Z.le (Kd.C_below Z.C (below_alloc (Below.refl _ _) _)) (HN2.out.below (below_alloc (Below.refl _ _) _))).mono ?_; rintro e w1 ⟨rfl, hb⟩; have hb' := Aside0.mk (below_step HB.out (below_step (below_alloc (Below.refl _ _) _) hb)); clear hb))
                refine ⟨⟨k + 1, by omega, by go_num, HF2, hb'⟩, ?_⟩
                simp [intOf]; omega
              · have hzb : (tright x != 0) = true := by simpa using hz
                have HR : Aside0 (cparts t = tright x) := ⟨by rw [HE3.out, firstNZ_early tright (k + 1) (by rw [HFx.out]; exact hz), HFx.out, if_pos hz]⟩
                clear hz HE3
                go_wp2_with (first | (go_at_call 78; refine (term_right x A3 c3 _ HX4.out Z.le (Kd.C_below Z.C (below_alloc (Below.refl _ _) _)) (HN2.out.below (below_alloc (Below.refl _ _) _))).mono ?_; rintro e w1 ⟨rfl, hb⟩; have hb' := Aside0.mk (below_step HB.out (below_step (below_alloc (Below.refl _ _) _) hb)); clear hb))
                go_ret
                exact ⟨(by rw [HR.out]; try rfl), below_step HB2.out hb'.out⟩
            · have hltb : decide (k < t.f3.length) = false := decide_eq_false hlt
              have HE4 : Aside0 (cparts t = firstNZ (t.f4.map cparts)) := ⟨by
                have h1 := HF.out
                rw [show k = t.f3.length by omega, List.take_length] at h1
                rw [HE3.out, if_neg (fun h => h h1)]⟩
              clear HF HE3 HB2 HB HN1
              obtain ⟨wo, rfl⟩ : ∃ wo : World, wo = wr := ⟨_, rfl⟩
              obtain ⟨h0, h1, h2, h3, h4, hl0, hln⟩ := X2.box
              go_wp2_with fail
              clear h0 h1 h2 h3 h4 hl0 hln X1
              go_loopw [10, 88] (fun _ i wr => NoErr cparts t.f4 wo i wr) (fun _ i _ => t.f4.length - (intOf i).toNat)
              case atStart => exact NoErr.start _ _ _
              case round =>
                obtain ⟨j, hj, rfl, HF, HB⟩ := hrel
                have HN3 := Aside0.mk (HN2.out.below HB.out)
                by_cases hlt : j < t.f4.length
                · have hltb : decide (j < t.f4.length) = true := decide_eq_true hlt
                  obtain ⟨x, ad, A3, c3, B3, d3, hx, rfl, Z0⟩ := at41 X2.P.C2 j hlt
                  have Z := Z0.below HB.out
                  obtain ⟨z0, z1, z2, z3, z4, zl0, zln⟩ := Z.cells
                  have HX4 : Aside0 (csize x ≤ 4096) := ⟨by have h1 := sumTo_step csize hx; have h2 := sumTo_le csize t.f4 (j + 1); have := HT.out; have := HS.out; omega⟩
                  have HFx := Aside0.mk (firstNZ_take cparts hx HF.out)
                  have HX := Aside0.mk (HIH.out j x hx)
                  clear hx Z0 HF
                  by_cases hz : cparts x = 0
                  · have hzb : (cparts x != 0) = false := by simpa using hz
                    have HF2 : Aside0 (firstNZ ((t.f4.take (j + 1)).map cparts) = 0) := ⟨HFx.out.trans hz⟩
                    clear hz
                    go_wp2_with (first | (go_at_call 52; refine (HX.out A3 c3 B3 d3 _ HX4.out (Z.P.below (below_alloc (Below.refl _ _) _)) (HN3.out.below (below_alloc (Below.refl _ _) _))).mono ?_; rintro e w1 ⟨rfl, hb⟩; have hb' := Aside0.mk (below_step HB.out (below_step (below_alloc (Below.refl _ _) _) hb)); clear hb))
                    refine ⟨⟨j + 1, by omega, by go_num, HF2, hb'⟩, ?_⟩
                    simp [intOf]; omega
                  · have hzb : (cparts x != 0) = true := by simpa using hz
                    have HR : Aside0 (cparts t = cparts x) := ⟨by rw [HE4.out, firstNZ_early cparts (j + 1) (by rw [HFx.out]; exact hz), HFx.out]⟩
                    clear hz HE4
                    go_wp2_with (first | (go_at_call 52; refine (HX.out A3 c3 B3 d3 _ HX4.out (Z.P.below (below_alloc (Below.refl _ _) _)) (HN3.out.below (below_alloc (Below.refl _ _) _))).mono ?_; rintro e w1 ⟨rfl, hb⟩; have hb' := Aside0.mk (below_step HB.out (below_step (below_alloc (Below.refl _ _) _) hb)); clear hb))
                    go_ret
                    exact ⟨(by rw [HR.out]; try rfl), below_step HBr.out hb'.out⟩
                · have hltb : decide (j < t.f4.length) = false := decide_eq_false hlt
                  have HR : Aside0 (cparts t = 0) := ⟨by
                    have h1 := HF.out
                    rw [show j = t.f4.length by omega, List.take_length] at h1
                    rw [HE4.out, h1]⟩
                  clear HF HE4
                  go_wp2_with fail
                  go_ret
                  exact ⟨by rw [HR.out]; rfl, below_step HBr.out HB.out⟩

theorem cpart_all (q : Nat) : ∀ (t : S41), csize t ≤ q → CP t := by
  induction q with
  | zero => intro t h; rw [csize_eq] at h; omega
  | succ q ih =>
    intro t hq
    exact cpart_step t (fun k x hx => ih x (by have := csize_sub hx; omega))
theorem claim_part (t : S41) : CP t := cpart_all _ t (Nat.le_refl _)

set_option maxHeartbeats 1000000 in
/-- claim.Right's contract, at claims that are not too big. -/
theorem claim_right (t : S41) (A : Option Addr) (c : Nat) (B : Option Addr) (d : Nat) (w : World) (hs : csize t ≤ 4096) (hP : P41 w t A c B d) (hN : Needs w) :
    Calls Tryd.prog 26 #[v41 t A c B d] w fun e w' => e = .returned (.int .i64 (cright t)) ∧ Below w.heap.size w w' := by
  have hBW : Below w.heap.size w (w.alloc (.cells (c41 t A c B d) 41)) := below_alloc (Below.refl _ _) _
  have X : T41 (w.alloc (.cells (c41 t A c B d) 41)) ⟨w.heap.size, 0, none⟩ t A c B d := T41.mk_box (w := w) (blk_new _ _) hP hBW
  have HN := Aside0.mk hN
  have HBW := Aside0.mk hBW
  have HS := Aside0.mk hs
  have hsb : decide ((4096 : Int) < (csize t : Int)) = false := decide_eq_false (by omega)
  have hsb2 : decide (4096 < csize t) = false := decide_eq_false (by omega)
  clear hP hN hBW hs
  by_cases hd : 64 < cdep 65 t
  · have HR : Aside0 (cright t = 6) := ⟨by unfold cright; rw [if_pos hd]⟩
    go_enter Tryd.func26, Tryd.ntmps26
    go_upto_region 1 with fail
    generalize hW : w.alloc (.cells (c41 t A c B d) 41) = W0 at *
    clear hW
    obtain ⟨h0, h1, h2, h3, h4, hl0, hln⟩ := X.box
    go_wp2_with (first | (go_at_call 50; refine (claim_Depth t A c B d _ X.P).mono ?_; rintro e w1 ⟨rfl, hb⟩; have hb' := Aside0.mk hb; clear hb))
    go_ret
    exact ⟨by rw [HR.out]; rfl, below_step HBW.out hb'.out⟩
  · have HR : Aside0 (cright t = cparts t) := ⟨by unfold cright; rw [if_neg hd, if_neg (by have := HS.out; omega)]⟩
    go_enter Tryd.func26, Tryd.ntmps26
    go_upto_region 1 with fail
    generalize hW : w.alloc (.cells (c41 t A c B d) 41) = W0 at *
    clear hW
    obtain ⟨h0, h1, h2, h3, h4, hl0, hln⟩ := X.box
    go_wp2_with (first
      | (go_at_call 50; refine (claim_Depth t A c B d _ X.P).mono ?_; rintro e w1 ⟨rfl, hb⟩; have X1 := X.below hb; obtain ⟨k0, k1, k2, k3, k4, kl0, kln⟩ := X1.box; have HB1 := Aside0.mk (below_step HBW.out hb); clear hb)
      | (go_at_call 51; refine (claim_size t A c B d _ HS.out X1.P).mono ?_; rintro e w1 ⟨rfl, hb⟩; have X2 := X1.below hb; obtain ⟨l0, l1, l2, l3, l4, ll0, lln⟩ := X2.box; have HB2 := Aside0.mk (below_step HB1.out hb); clear hb)
      | (go_at_call 52; refine (claim_part t A c B d _ HS.out X2.P (HN.out.below HB2.out)).mono ?_; rintro e w1 ⟨rfl, hb⟩; have HB3 := Aside0.mk (below_step HB2.out hb); clear hb))
    go_ret
    exact ⟨(by rw [HR.out]; try rfl), HB3.out⟩
end Go.Proofs.YtbfgoopomfenjaaDoor
namespace Go.Proofs.YtbfgoopomfenjaaDoor
open Go.RowKit Go.Proofs.YtbfgoopomfenjaaDoorW.PrintWords Go.Proofs.YtbfgoopomfenjaaDoor.PTseitinValues
set_option linter.unusedVariables false
set_option linter.unusedSimpArgs false
attribute [local go_sem] World.cell?_alloc_lt

def tneed (op : Int) : Int := if op = 5 ∨ op = 6 then 2 else if op = 7 ∨ op = 8 then 1 else 0
def tnamed (op : Int) : Bool := op == 1 || op == 3
def tcount (op : Int) : Bool := op == 2 || op == 4 || op == 8
def tform (t : S82) : Bool := decide (t.f0 < 1) || decide (8 < t.f0) || (!tnamed t.f0 && !t.f1.toList.isEmpty) || (!tcount t.f0 && t.f2 != 0) || (t.f0 == 2 && decide (t.f2 < 0))
def tari (t : S82) : Bool := (t.f0 == 3 && decide (8 < t.f3.length)) || (t.f0 != 3 && (t.f3.length : Int) != tneed t.f0)
theorem tpart_eq (t : S82) : tpart t = if tform t = true then 7 else if tari t = true then 12 else 0 := by
  by_cases h0 : t.f0 < 1 ∨ 8 < t.f0
  · have : tform t = true := by unfold tform; rcases h0 with h | h <;> simp [h]
    rw [if_pos this]; unfold tpart; rw [if_pos h0]
  · unfold tpart
    rw [if_neg h0]
    have e1 : decide (t.f0 < 1) = false := decide_eq_false (by omega)
    have e2 : decide (8 < t.f0) = false := decide_eq_false (by omega)
    have hF : tform t = true ↔ ((t.f1.toList.isEmpty = false ∧ t.f0 ≠ 1 ∧ t.f0 ≠ 3) ∨ (t.f2 ≠ 0 ∧ t.f0 ≠ 2 ∧ t.f0 ≠ 4 ∧ t.f0 ≠ 8) ∨ (t.f0 = 2 ∧ t.f2 < 0)) := by
      unfold tform tnamed tcount
      rw [e1, e2]
      simp only [Bool.or_eq_true, Bool.and_eq_true, Bool.false_or, Bool.not_eq_true', Bool.or_eq_false_iff, beq_eq_false_iff_ne, bne_iff_ne, beq_iff_eq, decide_eq_true_eq]
      constructor
      · rintro ((⟨⟨h1, h2⟩, h3⟩ | ⟨⟨⟨h1, h2⟩, h3⟩, h4⟩) | h1)
        · exact .inl ⟨h3, h1, h2⟩
        · exact .inr (.inl ⟨h4, h1, h2, h3⟩)
        · exact .inr (.inr h1)
      · rintro (⟨h1, h2, h3⟩ | ⟨h1, h2, h3, h4⟩ | h1)
        · exact .inl (.inl ⟨⟨h2, h3⟩, h1⟩)
        · exact .inl (.inr ⟨⟨⟨h2, h3⟩, h4⟩, h1⟩)
        · exact .inr h1
    by_cases h1 : tform t = true
    · rw [if_pos h1, if_pos (hF.1 h1)]
    · rw [if_neg h1, if_neg (fun h => h1 (hF.2 h))]
      have hA : tari t = true ↔ (needOf t.f0.toNat < t.f3.length ∨ (t.f0 ≠ 3 ∧ (t.f3.length : Int) ≠ needOf t.f0.toNat)) := by
        unfold tari
        simp only [Bool.or_eq_true, Bool.and_eq_true, bne_iff_ne, beq_iff_eq, decide_eq_true_eq]
        have hop : t.f0 = 1 ∨ t.f0 = 2 ∨ t.f0 = 3 ∨ t.f0 = 4 ∨ t.f0 = 5 ∨ t.f0 = 6 ∨ t.f0 = 7 ∨ t.f0 = 8 := by omega
        generalize t.f3.length = n
        rcases hop with h | h | h | h | h | h | h | h <;> rw [h] <;> simp [needOf, tneed] <;> omega
      by_cases h2 : tari t = true
      · rw [if_pos h2, if_pos (hA.1 h2)]
      · rw [if_neg h2, if_neg (fun h => h2 (hA.2 h))]
theorem firstNZ_flat {α : Type} (f : α → List Int) (l : List α) : firstNZ (l.flatMap f) = firstNZ (l.map fun x => firstNZ (f x)) := by
  induction l with
  | nil => rfl
  | cons a l ih =>
    rw [List.flatMap_cons, List.map_cons]
    by_cases h : firstNZ (f a) = 0
    · rw [firstNZ_append_zero h, ih, firstNZ, if_pos h]
    · rw [firstNZ_append_ne h, firstNZ, if_neg h]
theorem tparts_eq (t : S82) : tparts t = if tform t = true then 7 else if tari t = true then 12 else firstNZ (t.f3.map tparts) := by
  have h1 : tparts t = if tpart t = 0 then firstNZ (t.f3.map tparts) else tpart t := by
    unfold tparts
    rw [tpre_eq, List.map_cons, firstNZ]
    have hl : ∀ l : List S82, firstNZ ((tpreL l).map tpart) = firstNZ (l.map fun t => firstNZ ((tpre t).map tpart)) := by
      intro l
      induction l with
      | nil => rfl
      | cons a l ih =>
        rw [tpreL, List.map_append, List.map_cons]
        by_cases h : firstNZ ((tpre a).map tpart) = 0
        · rw [firstNZ_append_zero h, ih, firstNZ, if_pos h]
        · rw [firstNZ_append_ne h, firstNZ, if_neg h]
    rw [hl]
  rw [h1, tpart_eq]
  by_cases hf : tform t = true
  · simp only [hf, if_true]; rfl
  · by_cases ha : tari t = true
    · simp only [hf, ha, if_true, if_false]; rfl
    · simp only [hf, ha, if_false, if_true]; rfl

def RT (t : S82) : Prop := ∀ (A : Option Addr) (c : Nat) (w : World), t.f3.length ≤ c → k82.C w A t.f3.length t.f3 →
  Calls Tryd.prog 95 #[v82 t A c] w fun e w' => e = .returned (.int .i64 (tparts t)) ∧ Below w.heap.size w w'

set_option maxRecDepth 100000 in
set_option maxHeartbeats 4000000 in
theorem rterm_step (t : S82) (ih : ∀ (k : Nat) (x : S82), t.f3[k]? = some x → RT x) : RT t := by
  intro A c w hc hC
  have HIH := Aside0.mk ih
  have HE := Aside0.mk (tparts_eq t)
  have hla := hC.2.1
  have hBW : Below w.heap.size w (w.alloc (.cells #[.int .i64 t.f0, .string t.f1, .int .i64 t.f2, .slice A t.f3.length c] 82)) := below_alloc (Below.refl _ _) _
  have X : T82 (w.alloc (.cells #[.int .i64 t.f0, .string t.f1, .int .i64 t.f2, .slice A t.f3.length c] 82)) ⟨w.heap.size, 0, none⟩ t A c := T82.mk_box (w := w) (blk_new _ _) hc hC hBW
  have HBW := Aside0.mk hBW
  clear ih hc hC hBW
  go_enter Tryd.func95, Tryd.ntmps95
  go_upto_region 1 with fail
  generalize hW : w.alloc (.cells #[.int .i64 t.f0, .string t.f1, .int .i64 t.f2, .slice A t.f3.length c] 82) = W0 at *
  clear hW
  generalize w.heap.size = N at X
  rename_i K0 hK0
  obtain ⟨h0, h1, h2, h3, hl0, hln⟩ := X.box
  go_cut [3] (fun v wx => v = .bool (tnamed t.f0) ∧ W0 = wx)
  case first =>
    by_cases o1 : t.f0 = 1
    · have o1b : (t.f0 == 1) = true := by simpa using o1
      have HF : Aside0 (tnamed t.f0 = true) := ⟨by unfold tnamed; rw [o1b]; rfl⟩
      clear o1
      go_wp2_with fail
      go_meet
      case rel => exact ⟨congrArg Value.bool HF.out.symm, rfl⟩
    · have o1b : (t.f0 == 1) = false := by simpa using o1
      have HF : Aside0 (tnamed t.f0 = (t.f0 == 3)) := ⟨by unfold tnamed; rw [o1b]; rfl⟩
      clear o1
      go_wp2_with fail
      go_meet
      case rel => exact ⟨congrArg Value.bool HF.out.symm, rfl⟩
  case rest =>
  obtain ⟨rfl, rfl⟩ := hcut
  refine hK0 _ _ ?_
  clear hK0
  go_upto_region 2 with fail
  rename_i K0 hK0
  go_cut [4] (fun v wx => v = .bool (tcount t.f0) ∧ W0 = wx)
  case first =>
    by_cases o1 : t.f0 = 2
    · have o1b : (t.f0 == 2) = true := by simpa using o1
      have HF : Aside0 (tcount t.f0 = true) := ⟨by unfold tcount; rw [o1b]; rfl⟩
      clear o1
      go_wp2_with fail
      go_meet
      case rel => exact ⟨congrArg Value.bool HF.out.symm, rfl⟩
    · have o1b : (t.f0 == 2) = false := by simpa using o1
      clear o1
      by_cases o4 : t.f0 = 4
      · have o4b : (t.f0 == 4) = true := by simpa using o4
        have HF : Aside0 (tcount t.f0 = true) := ⟨by unfold tcount; rw [o1b, o4b]; rfl⟩
        clear o4
        go_wp2_with fail
        go_meet
        case rel => exact ⟨congrArg Value.bool HF.out.symm, rfl⟩
      · have o4b : (t.f0 == 4) = false := by simpa using o4
        have HF : Aside0 (tcount t.f0 = (t.f0 == 8)) := ⟨by unfold tcount; rw [o1b, o4b]; rfl⟩
        clear o4
        go_wp2_with fail
        go_meet
        case rel => exact ⟨congrArg Value.bool HF.out.symm, rfl⟩
  case rest =>
  obtain ⟨rfl, rfl⟩ := hcut
  refine hK0 _ _ ?_
  clear hK0
  go_upto_region 3 with fail
  rename_i K0 hK0
  have HD : Aside0 (tform t = (decide (t.f0 < 1) || decide (8 < t.f0) || (!tnamed t.f0 && !t.f1.toList.isEmpty) || (!tcount t.f0 && t.f2 != 0) || (t.f0 == 2 && decide (t.f2 < 0)))) := ⟨rfl⟩
  generalize tnamed t.f0 = nm at *
  generalize tcount t.f0 = ct at *
  go_cut [64] (fun v wx => v = .bool (tform t) ∧ W0 = wx)
  case first =>
    by_cases g1 : t.f0 < 1
    · have j1 : decide (t.f0 < 1) = true := decide_eq_true g1
      have HF : Aside0 (tform t = true) := ⟨by rw [HD.out, j1]; rfl⟩
      clear HD g1
      go_wp2_with fail; go_meet; (case rel => exact ⟨congrArg Value.bool HF.out.symm, rfl⟩)
    · have j1 : decide (t.f0 < 1) = false := decide_eq_false g1
      by_cases g2 : 8 < t.f0
      · have j2 : decide (8 < t.f0) = true := decide_eq_true g2
        have HF : Aside0 (tform t = true) := ⟨by rw [HD.out, j1, j2]; rfl⟩
        clear HD g1 g2
        go_wp2_with fail; go_meet; (case rel => exact ⟨congrArg Value.bool HF.out.symm, rfl⟩)
      · have j2 : decide (8 < t.f0) = false := decide_eq_false g2
        have HD2 : Aside0 (tform t = ((!nm && !t.f1.toList.isEmpty) || (!ct && t.f2 != 0) || (t.f0 == 2 && decide (t.f2 < 0)))) := ⟨by rw [HD.out, j1, j2]; rfl⟩
        clear HD g1 g2
        have hsub : ∀ b : Bool, b = true ∨ b = false := fun b => by cases b <;> simp
        obtain ⟨HD3, hn⟩ | ⟨HF, hn, m1⟩ : (Aside0 (tform t = ((!ct && t.f2 != 0) || (t.f0 == 2 && decide (t.f2 < 0)))) ∧ (nm = true ∨ (nm = false ∧ t.f1.toList = []))) ∨ (Aside0 (tform t = true) ∧ nm = false ∧ t.f1.toList.isEmpty = false) := by
          by_cases n1 : t.f1.toList = []
          · left
            refine ⟨⟨by rw [HD2.out]; simp [n1]⟩, ?_⟩
            rcases hsub nm with h | h
            · exact .inl h
            · exact .inr ⟨h, n1⟩
          · have m1 : t.f1.toList.isEmpty = false := by simpa using n1
            rcases hsub nm with h | h
            · left
              exact ⟨⟨by rw [HD2.out, h]; simp⟩, .inl h⟩
            · right
              exact ⟨⟨by rw [HD2.out, h, m1]; simp⟩, h, m1⟩
        · clear HD2
          obtain ⟨HD4, hc2⟩ | ⟨HF, hc2, m2⟩ : (Aside0 (tform t = (t.f0 == 2 && decide (t.f2 < 0))) ∧ (ct = true ∨ (ct = false ∧ (t.f2 != 0) = false))) ∨ (Aside0 (tform t = true) ∧ ct = false ∧ (t.f2 != 0) = true) := by
            rcases hsub ct with h | h
            · left
              exact ⟨⟨by rw [HD3.out, h]; simp⟩, .inl h⟩
            · rcases hsub (t.f2 != 0) with h2 | h2
              · right
                exact ⟨⟨by rw [HD3.out, h, h2]; simp⟩, h, h2⟩
              · left
                exact ⟨⟨by rw [HD3.out, h, h2]; simp⟩, .inr ⟨h, h2⟩⟩
          · clear HD3
            rcases hsub (t.f0 == 2) with o2 | o2
            · have HF : Aside0 (tform t = decide (t.f2 < 0)) := ⟨by rw [HD4.out, o2]; rfl⟩
              clear HD4 hsub
              rcases hn with rfl | ⟨rfl, n1⟩ <;> rcases hc2 with rfl | ⟨rfl, c2⟩
              all_goals (go_wp2_with fail; go_meet; (case rel => exact ⟨congrArg Value.bool HF.out.symm, rfl⟩))
            · have HF : Aside0 (tform t = false) := ⟨by rw [HD4.out, o2]; rfl⟩
              clear HD4 hsub
              rcases hn with rfl | ⟨rfl, n1⟩ <;> rcases hc2 with rfl | ⟨rfl, c2⟩
              all_goals (go_wp2_with fail; go_meet; (case rel => exact ⟨congrArg Value.bool HF.out.symm, rfl⟩))
          · clear HD3 hsub
            subst hc2
            rcases hn with rfl | ⟨rfl, n1⟩
            all_goals (go_wp2_with fail; go_meet; (case rel => exact ⟨congrArg Value.bool HF.out.symm, rfl⟩))
        · clear HD2 hsub
          subst hn
          go_wp2_with fail; go_meet; (case rel => exact ⟨congrArg Value.bool HF.out.symm, rfl⟩)
  case rest =>
  obtain ⟨rfl, rfl⟩ := hcut
  refine hK0 _ _ ?_
  clear hK0 HD
  by_cases hf : tform t = true
  · have HR : Aside0 (tparts t = 7) := ⟨by rw [HE.out, if_pos hf]⟩
    clear HE
    rw [hf]
    go_wp2_with fail
    go_ret
    exact ⟨by rw [HR.out]; rfl, HBW.out⟩
  have HE2 : Aside0 (tparts t = if tari t = true then 12 else firstNZ (t.f3.map tparts)) := ⟨by rw [HE.out, if_neg hf]⟩
  have hf : tform t = false := by simpa using hf
  clear HE
  rw [hf]
  have HOP : Aside0 (1 ≤ t.f0 ∧ t.f0 ≤ 8) := ⟨by
    unfold tform at hf
    simp only [Bool.or_eq_false_iff, decide_eq_false_iff_not] at hf
    omega⟩
  go_upto_region 6 with fail
  rename_i K1 hK1 K0 hK0
  have HK0 := Aside0.mk hK0
  have HK1 := Aside0.mk hK1
  clear hK0 hK1
  go_wp2_with fail
  refine HK0.out _ _ ?_
  clear HK0
  have hK1 := HK1.out
  clear HK1
  go_cut [5] (fun v wx => v = .int .i64 (tneed t.f0) ∧ W0 = wx)
  case first =>
    have HP := HOP.out
    obtain ⟨op, nmm, num, args⟩ := t
    dsimp only at *
    obtain h | h | h | h | h | h | h | h : op = 1 ∨ op = 2 ∨ op = 3 ∨ op = 4 ∨ op = 5 ∨ op = 6 ∨ op = 7 ∨ op = 8 := by omega
    all_goals subst h
    all_goals clear HP
    all_goals go_wp2_with fail
    all_goals go_meet
    all_goals (exact ⟨rfl, rfl⟩)
  case rest =>
  obtain ⟨rfl, rfl⟩ := hcut
  refine hK1 _ _ ?_
  clear hK1
  go_upto_region 13 with fail
  rename_i K0 hK0
  have HD : Aside0 (tari t = ((t.f0 == 3 && decide (8 < t.f3.length)) || (t.f0 != 3 && (t.f3.length : Int) != tneed t.f0))) := ⟨rfl⟩
  have hnb : 0 ≤ tneed t.f0 ∧ tneed t.f0 ≤ 2 := by unfold tneed; (repeat' split) <;> omega
  generalize tneed t.f0 = nd at *
  go_cut [93] (fun v wx => v = .bool (tari t) ∧ W0 = wx)
  case first =>
    by_cases o3 : t.f0 = 3
    · have o3a : (t.f0 == 3) = true := by simpa using o3
      have o3b : (t.f0 != 3) = false := by simpa using o3
      clear o3
      by_cases q3 : (8 : Int) < t.f3.length
      · have q3b : decide ((8 : Int) < (t.f3.length : Int)) = true := decide_eq_true q3
        have q4b : decide (8 < t.f3.length) = true := decide_eq_true (by omega)
        have HF : Aside0 (tari t = true) := ⟨by rw [HD.out, o3a, q4b]; rfl⟩
        go_wp2_with fail; go_meet; (case rel => exact ⟨congrArg Value.bool HF.out.symm, rfl⟩)
      · have q3b : decide ((8 : Int) < (t.f3.length : Int)) = false := decide_eq_false q3
        have q4b : decide (8 < t.f3.length) = false := decide_eq_false (by omega)
        have HF : Aside0 (tari t = false) := ⟨by rw [HD.out, q4b, o3b]; simp⟩
        go_wp2_with fail; go_meet; (case rel => exact ⟨congrArg Value.bool HF.out.symm, rfl⟩)
    · have o3a : (t.f0 == 3) = false := by simpa using o3
      have o3b : (t.f0 != 3) = true := by simpa using o3
      have HF : Aside0 (tari t = ((t.f3.length : Int) != nd)) := ⟨by rw [HD.out, o3a, o3b]; simp⟩
      clear o3
      go_wp2_with fail; go_meet; (case rel => exact ⟨congrArg Value.bool HF.out.symm, rfl⟩)
  case rest =>
  obtain ⟨rfl, rfl⟩ := hcut
  refine hK0 _ _ ?_
  clear hK0 HD hnb
  by_cases ha : tari t = true
  · have HR : Aside0 (tparts t = 12) := ⟨by rw [HE2.out, if_pos ha]⟩
    clear HE2
    rw [ha]
    go_wp2_with fail
    go_ret
    exact ⟨by rw [HR.out]; rfl, HBW.out⟩
  have HE3 : Aside0 (tparts t = firstNZ (t.f3.map tparts)) := ⟨by rw [HE2.out, if_neg ha]⟩
  have ha : tari t = false := by simpa using ha
  clear HE2
  rw [ha]
  go_wp2_with fail
  clear h0 h1 h2 h3 hl0 hln
  go_loopw [6, 7] (fun i _ wr => NoErr tparts t.f3 W0 i wr) (fun i _ _ => t.f3.length - (intOf i).toNat)
  case atStart => exact NoErr.start _ _ _
  case round =>
    obtain ⟨k, hk, rfl, HF, HB⟩ := hrel
    have HBr := Aside0.mk (below_step HBW.out HB.out)
    have X1 := X.below HB.out
    obtain ⟨h0, h1, h2, h3, hl0, hln⟩ := X1.box
    by_cases hlt : k < t.f3.length
    · have hltb : decide (k < t.f3.length) = true := decide_eq_true hlt
      obtain ⟨x, ad, A3, c3, hx, rfl, Z0⟩ := at82 X.C k hlt
      have Z := Z0.below HB.out
      obtain ⟨z0, z1, z2, z3, zl0, zln⟩ := Z.cells
      have HFx := Aside0.mk (firstNZ_take tparts hx HF.out)
      have HX := Aside0.mk (HIH.out k x hx)
      clear hx Z0 HF
      by_cases hz : tparts x = 0
      · have hzb : (tparts x != 0) = false := by simpa using hz
        have HF2 : Aside0 (firstNZ ((t.f3.take (k + 1)).map tparts) = 0) := ⟨HFx.out.trans hz⟩
        clear hz
        go_wp2_with (first | (go_at_call 95; refine (HX.out A3 c3 _ Z.le Z.C).mono ?_; rintro e w1 ⟨rfl, hb⟩; have hb' := Aside0.mk (below_step HB.out hb); clear hb))
        refine ⟨⟨k + 1, by omega, by go_num, HF2, hb'⟩, ?_⟩
        simp [intOf]; omega
      · have hzb : (tparts x != 0) = true := by simpa using hz
        have HR : Aside0 (tparts t = tparts x) := ⟨by rw [HE3.out, firstNZ_early tparts (k + 1) (by rw [HFx.out]; exact hz), HFx.out]⟩
        clear hz HE3
        go_wp2_with (first | (go_at_call 95; refine (HX.out A3 c3 _ Z.le Z.C).mono ?_; rintro e w1 ⟨rfl, hb⟩; have hb' := Aside0.mk (below_step HB.out hb); clear hb))
        go_ret
        exact ⟨(by rw [HR.out]; try rfl), below_step HBW.out hb'.out⟩
    · have hltb : decide (k < t.f3.length) = false := decide_eq_false hlt
      have HR : Aside0 (tparts t = 0) := ⟨by
        have h1 := HF.out
        rw [show k = t.f3.length by omega, List.take_length] at h1
        rw [HE3.out, h1]⟩
      clear HF HE3
      go_wp2_with fail
      go_ret
      exact ⟨by rw [HR.out]; rfl, below_step HBW.out HB.out⟩
theorem rterm_all (q : Nat) : ∀ (t : S82), tsize t ≤ q → RT t := by
  induction q with
  | zero => intro t h; rw [tsize_eq] at h; omega
  | succ q ih =>
    intro t hq
    exact rterm_step t (fun k x hx => ih x (by have := tsize_arg hx; omega))
theorem ref_termParts (t : S82) : RT t := rterm_all _ t (Nat.le_refl _)
end Go.Proofs.YtbfgoopomfenjaaDoor
namespace Go.Proofs.YtbfgoopomfenjaaDoor
open Go.RowKit Go.Proofs.YtbfgoopomfenjaaDoorW.PrintWords Go.Proofs.YtbfgoopomfenjaaDoor.PTseitinValues
set_option linter.unusedVariables false
set_option linter.unusedSimpArgs false
attribute [local go_sem] World.cell?_alloc_lt

set_option maxHeartbeats 1000000 in
theorem ref_TermRight (t : S82) (A : Option Addr) (c : Nat) (w : World) (hs : tsize t ≤ 4096) (hc : t.f3.length ≤ c) (hC : k82.C w A t.f3.length t.f3) :
    Calls Tryd.prog 83 #[v82 t A c] w fun e w' => e = .returned (.int .i64 (tright t)) ∧ Below w.heap.size w w' := by
  have hBW : Below w.heap.size w (w.alloc (.cells #[.int .i64 t.f0, .string t.f1, .int .i64 t.f2, .slice A t.f3.length c] 82)) := below_alloc (Below.refl _ _) _
  have X : T82 (w.alloc (.cells #[.int .i64 t.f0, .string t.f1, .int .i64 t.f2, .slice A t.f3.length c] 82)) ⟨w.heap.size, 0, none⟩ t A c := T82.mk_box (w := w) (blk_new _ _) hc hC hBW
  have HBW := Aside0.mk hBW
  have HS := Aside0.mk hs
  have hcap : cap (tsize t) 4096 = tsize t := by rw [cap_eq]; omega
  have hsb : decide ((4096 : Int) < (tsize t : Int)) = false := decide_eq_false (by omega)
  clear hc hC hBW hs
  by_cases hd : 64 < tdep 65 t
  · have HR : Aside0 (tright t = 6) := ⟨by unfold tright; rw [if_pos hd]⟩
    go_enter Tryd.func83, Tryd.ntmps83
    go_upto_region 1 with fail
    generalize hW : w.alloc (.cells #[.int .i64 t.f0, .string t.f1, .int .i64 t.f2, .slice A t.f3.length c] 82) = W0 at *
    clear hW
    obtain ⟨h0, h1, h2, h3, hl0, hln⟩ := X.box
    go_wp2_with (first | (go_at_call 94; refine (ref_tall 65 t A c _ (by omega) X.le X.C).mono ?_; rintro e w1 ⟨rfl, hb⟩; have hb' := Aside0.mk hb; clear hb))
    go_ret
    exact ⟨by rw [HR.out]; rfl, below_step HBW.out hb'.out⟩
  · have HR : Aside0 (tright t = tparts t) := ⟨by unfold tright; rw [if_neg hd, if_neg (by have := HS.out; omega)]⟩
    go_enter Tryd.func83, Tryd.ntmps83
    go_upto_region 1 with fail
    generalize hW : w.alloc (.cells #[.int .i64 t.f0, .string t.f1, .int .i64 t.f2, .slice A t.f3.length c] 82) = W0 at *
    clear hW
    obtain ⟨h0, h1, h2, h3, hl0, hln⟩ := X.box
    go_wp2_with (first
      | (go_at_call 94; refine (ref_tall 65 t A c _ (by omega) X.le X.C).mono ?_; rintro e w1 ⟨rfl, hb⟩; have X1 := X.below hb; obtain ⟨k0, k1, k2, k3, kl0, kln⟩ := X1.box; have HB1 := Aside0.mk (below_step HBW.out hb); clear hb)
      | (go_at_call 93; refine (ref_size _ t A c 4096 _ (Nat.le_refl _) (by omega) (by omega) X1.le X1.C).mono ?_; rintro e w1 ⟨rfl, hb⟩; have X2 := X1.below hb; obtain ⟨l0, l1, l2, l3, ll0, lln⟩ := X2.box; have HB2 := Aside0.mk (below_step HB1.out hb); clear hb; rw [show (4096 : Int).toNat = 4096 from rfl, hcap])
      | (go_at_call 95; refine (ref_termParts t A c _ X2.le X2.C).mono ?_; rintro e w1 ⟨rfl, hb⟩; have HB3 := Aside0.mk (below_step HB2.out hb); clear hb))
    go_ret
    exact ⟨by rw [HR.out]; try rfl, HB3.out⟩

/-- What the reference wants. -/
def wtN (op : Int) : Int := if op = 4 ∨ op = 5 then 2 else 0
set_option maxRecDepth 100000 in
set_option maxHeartbeats 2000000 in
theorem ref_wants (op : Int) (w : World) (h1 : 1 ≤ op) (h2 : op ≤ 12) :
    Calls Tryd.prog 82 #[.int .i64 op] w fun e w' => e = .returned (.tuple #[.int .i64 (wtN op), .int .i64 (csN op)]) ∧ w = w' := by
  obtain h | h | h | h | h | h | h | h | h | h | h | h : op = 1 ∨ op = 2 ∨ op = 3 ∨ op = 4 ∨ op = 5 ∨ op = 6 ∨ op = 7 ∨ op = 8 ∨ op = 9 ∨ op = 10 ∨ op = 11 ∨ op = 12 := by omega
  all_goals subst h
  all_goals clear h1 h2
  all_goals go_enter Tryd.func82, Tryd.ntmps82
  all_goals go_wp2
  all_goals exact bodyPost_ret (by simp [results, Tryd.results82, go_sem]; (first | exact ⟨rfl, rfl⟩ | rfl)) rfl ⟨rfl, rfl⟩

def RP (t : S41) : Prop := ∀ (A : Option Addr) (c : Nat) (B : Option Addr) (d : Nat) (w : World), csize t ≤ 4096 → P41 w t A c B d →
  Calls Tryd.prog 62 #[v41 t A c B d] w fun e w' => e = .returned (.int .i64 (cparts t)) ∧ Below w.heap.size w w'

set_option maxRecDepth 100000 in
set_option maxHeartbeats 4000000 in
theorem rparts_step (t : S41) (ih : ∀ (k : Nat) (x : S41), t.f4[k]? = some x → RP x) : RP t := by
  intro A c B d w hs hP
  have HIH := Aside0.mk ih
  have HE := Aside0.mk (cparts_eq t)
  have HT : Aside0 (csize t = 1 + (t.f3.map tsize).sum + (t.f4.map csize).sum) := ⟨by rw [csize_eq, sizeL_sum, csizeL_sum]⟩
  have hla := hP.C1.2.1
  have hlb := hP.C2.2.1
  have hBW : Below w.heap.size w (w.alloc (.cells (c41 t A c B d) 41)) := below_alloc (Below.refl _ _) _
  have X : T41 (w.alloc (.cells (c41 t A c B d) 41)) ⟨w.heap.size, 0, none⟩ t A c B d := T41.mk_box (w := w) (blk_new _ _) hP hBW
  have HBW := Aside0.mk hBW
  have HS := Aside0.mk hs
  clear ih hs hP hBW
  go_enter Tryd.func62, Tryd.ntmps62
  go_upto_region 1 with fail
  generalize hW : w.alloc (.cells (c41 t A c B d) 41) = W0 at *
  clear hW
  generalize w.heap.size = N at X
  rename_i K0 hK0
  obtain ⟨h0, h1, h2, h3, h4, hl0, hln⟩ := X.box
  go_cut [3] (fun v wx => v = .bool (bind t.f0) ∧ W0 = wx)
  case first =>
    by_cases o1 : t.f0 = 11
    · have o1b : (t.f0 == 11) = true := by simpa using o1
      have HF : Aside0 (bind t.f0 = true) := ⟨by unfold bind; rw [o1b]; rfl⟩
      clear o1
      go_wp2_with fail; go_meet; (case rel => exact ⟨congrArg Value.bool HF.out.symm, rfl⟩)
    · have o1b : (t.f0 == 11) = false := by simpa using o1
      have HF : Aside0 (bind t.f0 = (t.f0 == 12)) := ⟨by unfold bind; rw [o1b]; rfl⟩
      clear o1
      go_wp2_with fail; go_meet; (case rel => exact ⟨congrArg Value.bool HF.out.symm, rfl⟩)
  case rest =>
  obtain ⟨rfl, rfl⟩ := hcut
  refine hK0 _ _ ?_
  clear hK0
  go_upto_region 2 with fail
  rename_i K0 hK0
  have HD : Aside0 (cform t = (decide (t.f0 < 1) || decide (12 < t.f0) || (!t.f1.toList.isEmpty && t.f0 != 3 && !bind t.f0) || (!t.f2.toList.isEmpty && !bind t.f0))) := ⟨rfl⟩
  have hb3 : t.f0 = 3 → bind t.f0 = false := fun h => by simp [bind, h]
  have HB3 := Aside0.mk hb3
  clear hb3
  generalize bind t.f0 = bi at *
  go_cut [48] (fun v wx => v = .bool (cform t) ∧ W0 = wx)
  case first =>
    by_cases g1 : t.f0 < 1
    · have j1 : decide (t.f0 < 1) = true := decide_eq_true g1
      have HF : Aside0 (cform t = true) := ⟨by rw [HD.out, j1]; rfl⟩
      go_wp2_with fail; go_meet; (case rel => exact ⟨congrArg Value.bool HF.out.symm, rfl⟩)
    · have j1 : decide (t.f0 < 1) = false := decide_eq_false g1
      by_cases g2 : 12 < t.f0
      · have j2 : decide (12 < t.f0) = true := decide_eq_true g2
        have HF : Aside0 (cform t = true) := ⟨by rw [HD.out, j1, j2]; rfl⟩
        go_wp2_with fail; go_meet; (case rel => exact ⟨congrArg Value.bool HF.out.symm, rfl⟩)
      · have j2 : decide (12 < t.f0) = false := decide_eq_false g2
        cases bi with
        | true =>
          have HF : Aside0 (cform t = false) := ⟨by rw [HD.out, j1, j2]; simp⟩
          go_wp2_with fail; go_meet; (case rel => exact ⟨congrArg Value.bool HF.out.symm, rfl⟩)
        | false =>
          by_cases n2 : t.f2.toList = []
          · by_cases o3 : t.f0 = 3
            · have e3 : (t.f0 != 3) = false := by simpa using o3
              have HF : Aside0 (cform t = false) := ⟨by rw [HD.out, j1, j2, e3]; simp [n2]⟩
              clear o3
              go_wp2_with fail; go_meet; (case rel => exact ⟨congrArg Value.bool HF.out.symm, rfl⟩)
            · have e3 : (t.f0 != 3) = true := by simpa using o3
              clear o3
              by_cases n1 : t.f1.toList = []
              · have HF : Aside0 (cform t = false) := ⟨by rw [HD.out, j1, j2, e3]; simp [n1, n2]⟩
                go_wp2_with fail; go_meet; (case rel => exact ⟨congrArg Value.bool HF.out.symm, rfl⟩)
              · have m1 : t.f1.toList.isEmpty = false := by simpa using n1
                have HF : Aside0 (cform t = true) := ⟨by rw [HD.out, j1, j2, e3, m1]; rfl⟩
                clear n1
                go_wp2_with fail; go_meet; (case rel => exact ⟨congrArg Value.bool HF.out.symm, rfl⟩)
          · have m2 : t.f2.toList.isEmpty = false := by simpa using n2
            have HF : Aside0 (cform t = true) := ⟨by rw [HD.out, j1, j2, m2]; simp⟩
            clear n2
            by_cases o3 : t.f0 = 3
            · have e3 : (t.f0 != 3) = false := by simpa using o3
              clear o3
              go_wp2_with fail; go_meet; (case rel => exact ⟨congrArg Value.bool HF.out.symm, rfl⟩)
            · have e3 : (t.f0 != 3) = true := by simpa using o3
              clear o3
              by_cases n1 : t.f1.toList = []
              · go_wp2_with fail; go_meet; (case rel => exact ⟨congrArg Value.bool HF.out.symm, rfl⟩)
              · have m1 : t.f1.toList.isEmpty = false := by simpa using n1
                clear n1
                go_wp2_with fail; go_meet; (case rel => exact ⟨congrArg Value.bool HF.out.symm, rfl⟩)
  case rest =>
  obtain ⟨rfl, rfl⟩ := hcut
  refine hK0 _ _ ?_
  clear hK0 HD HB3
  by_cases hf : cform t = true
  · have HR : Aside0 (cparts t = 7) := ⟨by rw [HE.out, if_pos hf]⟩
    clear HE
    rw [hf]
    go_wp2_with fail
    go_ret
    exact ⟨by rw [HR.out]; rfl, HBW.out⟩
  have HE2 : Aside0 (cparts t = if cari t = true then 12 else if firstNZ (t.f3.map tright) ≠ 0 then firstNZ (t.f3.map tright) else firstNZ (t.f4.map cparts)) := ⟨by rw [HE.out, if_neg hf]⟩
  have hop : 1 ≤ t.f0 ∧ t.f0 ≤ 12 := by
    have : cform t = false := by simpa using hf
    unfold cform at this
    simp only [Bool.or_eq_false_iff, decide_eq_false_iff_not] at this
    omega
  have hf : cform t = false := by simpa using hf
  clear HE
  rw [hf]
  have HOP := Aside0.mk hop
  have hlc : csN t.f0 ≤ 2 ∧ 0 ≤ csN t.f0 ∧ 0 ≤ wtN t.f0 ∧ wtN t.f0 ≤ 2 := by unfold csN wtN; (repeat' split) <;> omega
  clear hop
  go_upto_region 5 with (first | (go_at_call 82; refine (ref_wants t.f0 _ HOP.out.1 HOP.out.2).mono ?_; rintro e w1 ⟨rfl, rfl⟩))
  rename_i K1 hK1 K0 hK0
  have HK0 := Aside0.mk hK0
  have HK1 := Aside0.mk hK1
  clear hK0 hK1
  go_wp2_with fail
  refine HK0.out _ _ ?_
  clear HK0
  have hK1 := HK1.out
  clear HK1
  have HD : Aside0 (cari t = ((decide (0 ≤ caN t.f0) && (t.f3.length : Int) != caN t.f0) || decide (8 < t.f3.length) || (t.f4.length : Int) != csN t.f0)) := ⟨rfl⟩
  have hca : t.f0 = 3 → caN t.f0 = -1 := fun h => by unfold caN; rw [if_pos h]
  have hcb : t.f0 ≠ 3 → caN t.f0 = wtN t.f0 := fun h => by unfold caN wtN; rw [if_neg h]
  have HC := Aside0.mk hca
  have HC2 := Aside0.mk hcb
  clear hca hcb
  obtain ⟨m1, m2, m3, m4⟩ := hlc
  generalize wtN t.f0 = ta at *
  generalize csN t.f0 = sa at *
  go_cut [4] (fun v wx => ∃ nd : Int, v = .int .i64 nd ∧ W0 = wx ∧ Aside0 (cari t = ((t.f3.length : Int) != nd || (t.f4.length : Int) != sa)))
  case first =>
    by_cases o3 : t.f0 = 3
    · have o3b : (t.f0 == 3) = true := by simpa using o3
      have HC3 := Aside0.mk (HC.out o3)
      clear o3
      by_cases q3 : (8 : Int) < t.f3.length
      · have q3b : decide ((8 : Int) < (t.f3.length : Int)) = true := decide_eq_true q3
        have q4b : decide (8 < t.f3.length) = true := decide_eq_true (by omega)
        have HR : Aside0 (cparts t = 12) := ⟨by rw [HE2.out, if_pos]; rw [HD.out, q4b]; simp⟩
        clear HE2
        go_wp2_with fail
        go_ret
        exact ⟨by rw [HR.out]; rfl, HBW.out⟩
      · have q3b : decide ((8 : Int) < (t.f3.length : Int)) = false := decide_eq_false q3
        have q4b : decide (8 < t.f3.length) = false := decide_eq_false (by omega)
        have HF : Aside0 (cari t = ((t.f3.length : Int) != (t.f3.length : Int) || (t.f4.length : Int) != sa)) := ⟨by rw [HD.out, HC3.out, q4b]; simp⟩
        go_wp2_with fail
        go_meet
        case rel => exact ⟨_, rfl, rfl, HF⟩
    · have o3b : (t.f0 == 3) = false := by simpa using o3
      have HC3 := Aside0.mk (HC2.out o3)
      have HF : Aside0 (cari t = ((t.f3.length : Int) != ta || (t.f4.length : Int) != sa)) := ⟨by
        rw [HD.out, HC3.out]
        by_cases hq : (t.f3.length : Int) = ta
        · have : decide (8 < t.f3.length) = false := decide_eq_false (by omega)
          rw [this, decide_eq_true m3]; simp
        · have : ((t.f3.length : Int) != ta) = true := by simpa using hq
          rw [this, decide_eq_true m3]; simp⟩
      clear o3
      go_wp2_with fail
      go_meet
      case rel => exact ⟨_, rfl, rfl, HF⟩
  case rest =>
  obtain ⟨nd, rfl, rfl, HD2⟩ := hcut
  refine hK1 _ _ ?_
  clear hK1 HD HC HC2
  go_upto_region 9 with fail
  rename_i K0 hK0
  go_cut [74] (fun v wx => v = .bool (cari t) ∧ W0 = wx)
  case first =>
    by_cases q2 : (t.f3.length : Int) = nd
    · have q2b : ((t.f3.length : Int) != nd) = false := by simpa using q2
      have HF : Aside0 (cari t = ((t.f4.length : Int) != sa)) := ⟨by rw [HD2.out, q2b]; rfl⟩
      clear q2
      go_wp2_with fail; go_meet; (case rel => exact ⟨congrArg Value.bool HF.out.symm, rfl⟩)
    · have q2b : ((t.f3.length : Int) != nd) = true := by simpa using q2
      have HF : Aside0 (cari t = true) := ⟨by rw [HD2.out, q2b]; rfl⟩
      clear q2
      go_wp2_with fail; go_meet; (case rel => exact ⟨congrArg Value.bool HF.out.symm, rfl⟩)
  case rest =>
  obtain ⟨rfl, rfl⟩ := hcut
  refine hK0 _ _ ?_
  clear hK0 HD2
  by_cases ha : cari t = true
  · have HR : Aside0 (cparts t = 12) := ⟨by rw [HE2.out, if_pos ha]⟩
    clear HE2
    rw [ha]
    go_wp2_with fail
    go_ret
    exact ⟨by rw [HR.out]; rfl, HBW.out⟩
  have HE3 : Aside0 (cparts t = if firstNZ (t.f3.map tright) ≠ 0 then firstNZ (t.f3.map tright) else firstNZ (t.f4.map cparts)) := ⟨by rw [HE2.out, if_neg ha]⟩
  have ha : cari t = false := by simpa using ha
  clear HE2
  rw [ha]
  go_wp2_with fail
  clear h0 h1 h2 h3 h4 hl0 hln
  go_loopw [6, 7] (fun i _ wr => NoErr tright t.f3 W0 i wr) (fun i _ _ => t.f3.length - (intOf i).toNat)
  case atStart => exact NoErr.start _ _ _
  case round =>
    obtain ⟨k, hk, rfl, HF, HB⟩ := hrel
    have HBr := Aside0.mk (below_step HBW.out HB.out)
    have X2 := X.below HB.out
    obtain ⟨h0, h1, h2, h3, h4, hl0, hln⟩ := X2.box
    by_cases hlt : k < t.f3.length
    · have hltb : decide (k < t.f3.length) = true := decide_eq_true hlt
      obtain ⟨x, ad, A3, c3, hx, rfl, Z0⟩ := at82 X.P.C1 k hlt
      have Z := Z0.below HB.out
      obtain ⟨z0, z1, z2, z3, zl0, zln⟩ := Z.cells
      have HX4 : Aside0 (tsize x ≤ 4096) := ⟨by have h1 := sumTo_step tsize hx; have h2 := sumTo_le tsize t.f3 (k + 1); have := HT.out; have := HS.out; omega⟩
      have HFx := Aside0.mk (firstNZ_take tright hx HF.out)
      clear hx Z0 HF
      by_cases hz : tright x = 0
      · have hzb : (tright x != 0) = false := by simpa using hz
        have HF2 : Aside0 (firstNZ ((t.f3.take (k + 1)).map tright) = 0) := ⟨HFx.out.trans hz⟩
        clear hz
        go_wp2_with (first | (go_at_call 83; refine (ref_TermRight x A3 c3 _ HX4.out Z.le Z.C).mono ?_; rintro e w1 ⟨rfl, hb⟩; have hb' := Aside0.mk (below_step HB.out hb); clear hb))
        refine ⟨⟨k + 1, by omega, by go_num, HF2, hb'⟩, ?_⟩
        simp [intOf]; omega
      · have hzb : (tright x != 0) = true := by simpa using hz
        have HR : Aside0 (cparts t = tright x) := ⟨by rw [HE3.out, firstNZ_early tright (k + 1) (by rw [HFx.out]; exact hz), HFx.out, if_pos hz]⟩
        clear hz HE3
        go_wp2_with (first | (go_at_call 83; refine (ref_TermRight x A3 c3 _ HX4.out Z.le Z.C).mono ?_; rintro e w1 ⟨rfl, hb⟩; have hb' := Aside0.mk (below_step HB.out hb); clear hb))
        go_ret
        exact ⟨(by rw [HR.out]; try rfl), below_step HBW.out hb'.out⟩
    · have hltb : decide (k < t.f3.length) = false := decide_eq_false hlt
      have HE4 : Aside0 (cparts t = firstNZ (t.f4.map cparts)) := ⟨by
        have h1 := HF.out
        rw [show k = t.f3.length by omega, List.take_length] at h1
        rw [HE3.out, if_neg (fun h => h h1)]⟩
      clear HF HE3 HBW HB
      obtain ⟨wo, rfl⟩ : ∃ wo : World, wo = wr := ⟨_, rfl⟩
      go_wp2_with fail
      clear h0 h1 h2 h3 h4 hl0 hln X
      go_loopw [8, 9] (fun i _ wr => NoErr cparts t.f4 wo i wr) (fun i _ _ => t.f4.length - (intOf i).toNat)
      case atStart => exact NoErr.start _ _ _
      case round =>
        obtain ⟨j, hj, rfl, HF, HB⟩ := hrel
        have X3 := X2.below HB.out
        obtain ⟨h0, h1, h2, h3, h4, hl0, hln⟩ := X3.box
        by_cases hlt : j < t.f4.length
        · have hltb : decide (j < t.f4.length) = true := decide_eq_true hlt
          obtain ⟨x, ad, A3, c3, B3, d3, hx, rfl, Z0⟩ := at41 X2.P.C2 j hlt
          have Z := Z0.below HB.out
          obtain ⟨z0, z1, z2, z3, z4, zl0, zln⟩ := Z.cells
          have HX4 : Aside0 (csize x ≤ 4096) := ⟨by have h1 := sumTo_step csize hx; have h2 := sumTo_le csize t.f4 (j + 1); have := HT.out; have := HS.out; omega⟩
          have HFx := Aside0.mk (firstNZ_take cparts hx HF.out)
          have HX := Aside0.mk (HIH.out j x hx)
          clear hx Z0 HF
          by_cases hz : cparts x = 0
          · have hzb : (cparts x != 0) = false := by simpa using hz
            have HF2 : Aside0 (firstNZ ((t.f4.take (j + 1)).map cparts) = 0) := ⟨HFx.out.trans hz⟩
            clear hz
            go_wp2_with (first | (go_at_call 62; refine (HX.out A3 c3 B3 d3 _ HX4.out Z.P).mono ?_; rintro e w1 ⟨rfl, hb⟩; have hb' := Aside0.mk (below_step HB.out hb); clear hb))
            refine ⟨⟨j + 1, by omega, by go_num, HF2, hb'⟩, ?_⟩
            simp [intOf]; omega
          · have hzb : (cparts x != 0) = true := by simpa using hz
            have HR : Aside0 (cparts t = cparts x) := ⟨by rw [HE4.out, firstNZ_early cparts (j + 1) (by rw [HFx.out]; exact hz), HFx.out]⟩
            clear hz HE4
            go_wp2_with (first | (go_at_call 62; refine (HX.out A3 c3 B3 d3 _ HX4.out Z.P).mono ?_; rintro e w1 ⟨rfl, hb⟩; have hb' := Aside0.mk (below_step HB.out hb); clear hb))
            go_ret
            exact ⟨(by rw [HR.out]; try rfl), below_step HBr.out hb'.out⟩
        · have hltb : decide (j < t.f4.length) = false := decide_eq_false hlt
          have HR : Aside0 (cparts t = 0) := ⟨by
            have h1 := HF.out
            rw [show j = t.f4.length by omega, List.take_length] at h1
            rw [HE4.out, h1]⟩
          clear HF HE4
          go_wp2_with fail
          go_ret
          exact ⟨by rw [HR.out]; rfl, below_step HBr.out HB.out⟩

theorem rparts_all (q : Nat) : ∀ (t : S41), csize t ≤ q → RP t := by
  induction q with
  | zero => intro t h; rw [csize_eq] at h; omega
  | succ q ih =>
    intro t hq
    exact rparts_step t (fun k x hx => ih x (by have := csize_sub hx; omega))
theorem ref_parts (t : S41) : RP t := rparts_all _ t (Nat.le_refl _)

set_option maxHeartbeats 1000000 in
/-- ref08.Right's contract. -/
theorem ref_Right (t : S41) (A : Option Addr) (c : Nat) (B : Option Addr) (d : Nat) (w : World) (hs : csize t ≤ 4096) (hP : P41 w t A c B d) :
    Calls Tryd.prog 32 #[v41 t A c B d] w fun e w' => e = .returned (.int .i64 (cright t)) ∧ Below w.heap.size w w' := by
  have hBW : Below w.heap.size w (w.alloc (.cells (c41 t A c B d) 41)) := below_alloc (Below.refl _ _) _
  have X : T41 (w.alloc (.cells (c41 t A c B d) 41)) ⟨w.heap.size, 0, none⟩ t A c B d := T41.mk_box (w := w) (blk_new _ _) hP hBW
  have HBW := Aside0.mk hBW
  have HS := Aside0.mk hs
  have hcap : cap (csize t) 4096 = csize t := by rw [cap_eq]; omega
  have hsb : decide ((4096 : Int) < (csize t : Int)) = false := decide_eq_false (by omega)
  clear hP hBW hs
  by_cases hd : 64 < cdep 65 t
  · have HR : Aside0 (cright t = 6) := ⟨by unfold cright; rw [if_pos hd]⟩
    go_enter Tryd.func32, Tryd.ntmps32
    go_upto_region 1 with fail
    generalize hW : w.alloc (.cells (c41 t A c B d) 41) = W0 at *
    clear hW
    obtain ⟨h0, h1, h2, h3, h4, hl0, hln⟩ := X.box
    go_wp2_with (first | (go_at_call 60; refine (ref_Depth t A c B d _ X.P).mono ?_; rintro e w1 ⟨rfl, hb⟩; have hb' := Aside0.mk hb; clear hb))
    go_ret
    exact ⟨by rw [HR.out]; rfl, below_step HBW.out hb'.out⟩
  · have HR : Aside0 (cright t = cparts t) := ⟨by unfold cright; rw [if_neg hd, if_neg (by have := HS.out; omega)]⟩
    go_enter Tryd.func32, Tryd.ntmps32
    go_upto_region 1 with fail
    generalize hW : w.alloc (.cells (c41 t A c B d) 41) = W0 at *
    clear hW
    obtain ⟨h0, h1, h2, h3, h4, hl0, hln⟩ := X.box
    go_wp2_with (first
      | (go_at_call 60; refine (ref_Depth t A c B d _ X.P).mono ?_; rintro e w1 ⟨rfl, hb⟩; have X1 := X.below hb; obtain ⟨k0, k1, k2, k3, k4, kl0, kln⟩ := X1.box; have HB1 := Aside0.mk (below_step HBW.out hb); clear hb)
      | (go_at_call 61; refine (ref_Size t A c B d _ X1.P).mono ?_; rintro e w1 ⟨rfl, hb⟩; have X2 := X1.below hb; obtain ⟨l0, l1, l2, l3, l4, ll0, lln⟩ := X2.box; have HB2 := Aside0.mk (below_step HB1.out hb); clear hb; rw [hcap])
      | (go_at_call 62; refine (ref_parts t A c B d _ HS.out X2.P).mono ?_; rintro e w1 ⟨rfl, hb⟩; have HB3 := Aside0.mk (below_step HB2.out hb); clear hb))
    go_ret
    exact ⟨(by rw [HR.out]; try rfl), HB3.out⟩
end Go.Proofs.YtbfgoopomfenjaaDoor
namespace Go.Proofs.YtbfgoopomfenjaaDoor
open Go.RowKit Go.Proofs.YtbfgoopomfenjaaDoorW.PrintWords Go.Proofs.YtbfgoopomfenjaaDoor.PTseitinValues
set_option linter.unusedVariables false
set_option linter.unusedSimpArgs false
attribute [local go_sem] World.cell?_alloc_lt

mutual
/-- The atoms of a claim, behind those that are known. -/
def atomsC : S41 → List S41 → List S41
  | ⟨o, n, s, ts, us⟩, l => if o = 1 ∨ o = 2 then l else if 6 ≤ o ∧ o ≤ 10 then atomsL us l else if l.any (fun x => same x ⟨o, n, s, ts, us⟩) = true then l else l ++ [⟨o, n, s, ts, us⟩]
def atomsL : List S41 → List S41 → List S41
  | [], l => l
  | a :: us, l => atomsL us (atomsC a l)
end
theorem atomsC_eq (t : S41) (l : List S41) : atomsC t l = if t.f0 = 1 ∨ t.f0 = 2 then l else if 6 ≤ t.f0 ∧ t.f0 ≤ 10 then atomsL t.f4 l else if l.any (fun x => same x t) = true then l else l ++ [t] := by
  cases t; rw [atomsC]
theorem atomsL_snoc (us : List S41) (x : S41) (l : List S41) : atomsL (us ++ [x]) l = atomsC x (atomsL us l) := by
  induction us generalizing l with
  | nil => rw [List.nil_append, atomsL, atomsL, atomsL]
  | cons a us ih => rw [List.cons_append, atomsL, ih, atomsL]
theorem atomsL_take {us : List S41} {k : Nat} {x : S41} (hx : us[k]? = some x) (l : List S41) : atomsL (us.take (k + 1)) l = atomsC x (atomsL (us.take k) l) := by rw [take_snoc hx, atomsL_snoc]
theorem atomsL_len (n : Nat) : (∀ t l, csize t ≤ n → (atomsC t l).length ≤ l.length + csize t) := by
  induction n with
  | zero => intro t l h; rw [csize_eq] at h; omega
  | succ n ih =>
    intro t l h
    have hL : ∀ us : List S41, csizeL us ≤ n → ∀ l, (atomsL us l).length ≤ l.length + csizeL us := by
      intro us
      induction us with
      | nil => intro _ l; rw [atomsL]; omega
      | cons a us ih2 =>
        intro hu l
        rw [csizeL] at hu ⊢
        rw [atomsL]
        have h1 := ih2 (by omega) (atomsC a l)
        have h2 := ih a l (by omega)
        omega
    rw [csize_eq] at h ⊢
    rw [atomsC_eq]
    split
    · omega
    · split
      · have := hL t.f4 (by omega) l; omega
      · split
        · omega
        · rw [List.length_append, List.length_singleton]; omega
theorem atomsC_len (t : S41) (l : List S41) : (atomsC t l).length ≤ l.length + csize t := atomsL_len _ t l (Nat.le_refl _)
theorem atomsT_len (us : List S41) (l : List S41) (k : Nat) : (atomsL (us.take k) l).length ≤ l.length + sumTo csize us k := by
  induction k with
  | zero => rw [List.take_zero, atomsL]; omega
  | succ k ih =>
    rcases Nat.lt_or_ge k us.length with h | h
    · have hx : us[k]? = some us[k] := List.getElem?_eq_getElem h
      rw [atomsL_take hx, sumTo_step csize hx]
      have := atomsC_len us[k] (atomsL (us.take k) l)
      omega
    · have e : us.take (k + 1) = us.take k := by rw [List.take_of_length_le h, List.take_of_length_le (by omega)]
      have e2 : sumTo csize us (k + 1) = sumTo csize us k := by unfold sumTo; rw [e]
      rw [e, e2]; exact ih

/-- A claim's cells, its rows as they lay in w0. -/
def RC (w0 : World) (x : S41) (cs : List Value) : Prop := ∃ A c B d, cs = [.int .i64 x.f0, .string x.f1, .string x.f2, .slice A x.f3.length c, .slice B x.f4.length d] ∧ P41 w0 x A c B d
/-- A row of claims, of the call's own. -/
def AT (w0 W : World) (v : Value) (l : List S41) : Prop := OwnRow (RC w0) 41 5 W w0.heap.size v l
theorem AT.nil (w0 W : World) : AT w0 W (.slice none 0 0) [] := OwnRow.none_ _ _ _ _ _
theorem AT.get {w0 W : World} {A0 : Option Addr} {n c0 : Nat} {l : List S41} (h : AT w0 W (.slice A0 n c0) l) (hb : Below w0.heap.size w0 W) (k : Nat) (hk : k < l.length) :
    ∃ x ad A c B d, l[k]? = some x ∧ A0 = some ad ∧ T41 W (ad.add (k * 5)) x A c B d ∧ P41 w0 x A c B d := by
  obtain ⟨A', c', he, hl, hr⟩ := OwnRow.reads h
  injection he with e1 e2 e3
  subst e1 e2 e3
  obtain ⟨ad, rfl, hc⟩ := hr.2.2 (by omega)
  obtain ⟨cs, hs, ⟨A, c, B, d, rfl, hP⟩, hcell⟩ := hc k l[k] (List.getElem?_eq_getElem hk)
  refine ⟨l[k], ad, A, c, B, d, List.getElem?_eq_getElem hk, rfl, ⟨?_, ?_, ?_, ?_, ?_, hP.below hb⟩, hP⟩
  · simpa using hcell 0 _ rfl
  · rw [← add_field _ _ 1 (by omega)]; exact hcell 1 _ rfl
  · rw [← add_field _ _ 2 (by omega)]; exact hcell 2 _ rfl
  · rw [← add_field _ _ 3 (by omega)]; exact hcell 3 _ rfl
  · rw [← add_field _ _ 4 (by omega)]; exact hcell 4 _ rfl
/-- v' lies where v lay, or in a block that is new. -/
def OwnStep (n : Nat) (v v' : Value) : Prop := v'.ownBlock = v.ownBlock ∨ ∃ b, v'.ownBlock = some b ∧ n ≤ b
abbrev Ev (v : Value) : Nat → Prop := fun i => v.ownBlock = some i
theorem Upd.own {v v1 : Value} {A B C : World} (h : Upd (Ev v) A B) (hs : OwnStep A.heap.size v v1) (k : Upd (Ev v1) B C) : Upd (Ev v) A C :=
  ⟨k.os.trans h.os, k.tape.trans h.tape, k.output.trans h.output, Nat.le_trans h.size k.size, fun i hi he => (k.block i (Nat.lt_of_lt_of_le hi h.size) (fun e => by
    rcases hs with hs | ⟨b, hb, hle⟩
    · exact he (hs.symm.trans e)
    · have : b = i := by rw [show v1.ownBlock = some i from e] at hb; injection hb with hb; exact hb.symm
      omega)).trans (h.block i hi he)⟩
theorem OwnStep.trans {n m : Nat} {v v1 v2 : Value} (h : OwnStep n v v1) (k : OwnStep m v1 v2) (hn : n ≤ m) : OwnStep n v v2 := by
  rcases k with k | ⟨b, hb, hle⟩
  · rcases h with h | ⟨b, hb, hle⟩
    · exact .inl (k.trans h)
    · exact .inr ⟨b, k.trans hb, hle⟩
  · exact .inr ⟨b, hb, by omega⟩
theorem AT.below0 {w0 W : World} {v : Value} {l : List S41} (h : AT w0 W v l) (i : Nat) (hi : Ev v i) : w0.heap.size ≤ i := by
  obtain ⟨inner, ho, _⟩ := h
  exact own_base ho i hi
theorem AT.upd {w0 W W1 : World} {v : Value} {l : List S41} {E : Nat → Prop} (h : AT w0 W v l) (hu : Upd E W W1) (hE : ∀ i, Ev v i → ¬ E i) : AT w0 W1 v l := by
  obtain ⟨inner, ho, hr⟩ := h
  exact ⟨inner, own_move ho (fun k hk => hu.block k (own_lt ho k hk) (hE k hk)), hr⟩
theorem AT.lt {w0 W : World} {v : Value} {l : List S41} (h : AT w0 W v l) (i : Nat) (hi : Ev v i) : i < W.heap.size := by
  obtain ⟨inner, ho, _⟩ := h
  exact own_lt ho i hi

/-- What atoms' contract says. -/
def AtomsPost (w0 : World) (l' : List S41) (v : Value) (W : World) (e : Ending) (W' : World) : Prop :=
  ∃ A1 c1, e = .returned (.slice A1 l'.length c1) ∧ AT w0 W' (.slice A1 l'.length c1) l' ∧ Upd (Ev v) W W' ∧ OwnStep W.heap.size v (.slice A1 l'.length c1)
theorem AtomsPost.mk {w0 W W' : World} {l' : List S41} {v : Value} {A1 : Option Addr} {c1 : Nat} {e : Ending} (he : e = .returned (.slice A1 l'.length c1)) (h : AT w0 W' (.slice A1 l'.length c1) l') (hu : Upd (Ev v) W W') (hs : OwnStep W.heap.size v (.slice A1 l'.length c1)) : AtomsPost w0 l' v W e W' := ⟨A1, c1, he, h, hu, hs⟩
def RAT (t : S41) : Prop := ∀ (w0 : World) (A : Option Addr) (c : Nat) (B : Option Addr) (d : Nat) (A0 : Option Addr) (c0 : Nat) (l : List S41) (W : World), P41 w0 t A c B d → Below w0.heap.size w0 W → AT w0 W (.slice A0 l.length c0) l → l.length + csize t ≤ 1000000 →
  Calls Tryd.prog 63 #[.slice A0 l.length c0, v41 t A c B d] W (AtomsPost w0 (atomsC t l) (.slice A0 l.length c0) W)

theorem info41 : (Tryd.prog.info? 41).map (fun i => (i.zero, i.size, i.bytes)) = some (some (.agg #[(.int .i64 0), (.string ⟨#[]⟩), (.string ⟨#[]⟩), (.slice none 0 0), (.slice none 0 0)]), 5, 88) := by kernel_rfl
theorem AtomsPost.self {w0 W W' : World} {l : List S41} {A0 : Option Addr} {c0 : Nat} (h : AT w0 W (.slice A0 l.length c0) l) (hb : Below W.heap.size W W') : AtomsPost w0 l (.slice A0 l.length c0) W (.returned (.slice A0 l.length c0)) W' :=
  ⟨A0, c0, rfl, h.upd (Upd.of_below (E := fun _ => False) hb) (fun _ _ h => h), Upd.of_below hb, .inl rfl⟩

set_option maxRecDepth 100000 in
set_option maxHeartbeats 4000000 in
theorem ratoms_leaf (t : S41) (h0 : ¬ (t.f0 = 1 ∨ t.f0 = 2)) (h1 : ¬ (6 ≤ t.f0 ∧ t.f0 ≤ 10)) : RAT t := by
  intro w0 A c B d A0 c0 l W hP hB hL hs
  have hE : atomsC t l = if l.any (fun x => same x t) = true then l else l ++ [t] := by rw [atomsC_eq, if_neg h0, if_neg h1]
  have HE := Aside0.mk hE
  have q1 : (t.f0 == 1) = false := by simp; omega
  have q2 : (t.f0 == 2) = false := by simp; omega
  have q6 : (t.f0 == 6) = false := by simp; omega
  have q7 : (t.f0 == 7) = false := by simp; omega
  have q8 : (t.f0 == 8) = false := by simp; omega
  have q9 : (t.f0 == 9) = false := by simp; omega
  have q10 : (t.f0 == 10) = false := by simp; omega
  have hla : l.length ≤ 9223372036854775807 := by omega
  have HS := Aside0.mk hs
  have HP := Aside0.mk hP
  have HB := Aside0.mk hB
  have HL := Aside0.mk hL
  have hBW : Below W.heap.size W (W.alloc (.cells (c41 t A c B d) 41)) := below_alloc (Below.refl _ _) _
  have X : T41 (W.alloc (.cells (c41 t A c B d) 41)) ⟨W.heap.size, 0, none⟩ t A c B d := T41.mk_box (w := W) (blk_new _ _) (hP.below hB) hBW
  have HBW := Aside0.mk hBW
  clear hBW hP hB hL hs hE h0 h1
  go_enter Tryd.func63, Tryd.ntmps63
  go_upto_region 1 with fail
  generalize hW : W.alloc (.cells (c41 t A c B d) 41) = W0 at *
  clear hW
  obtain ⟨h0, h1, h2, h3, h4, hl0, hln⟩ := X.box
  go_wp2_with fail
  clear h0 h1 h2 h3 h4 hl0 hln
  go_loopw [6, 45] (fun i _ wr => ∃ k : Nat, k ≤ l.length ∧ i = .int .i64 k ∧ Aside0 ((l.take k).any (fun x => same x t) = false) ∧ Aside0 (Below W0.heap.size W0 wr)) (fun i _ _ => l.length - (intOf i).toNat)
  case atStart => exact ⟨0, Nat.zero_le _, rfl, ⟨rfl⟩, ⟨Below.refl _ _⟩⟩
  case round =>
    obtain ⟨k, hk, rfl, HN, HBr⟩ := hrel
    have X1 := X.below HBr.out
    obtain ⟨h0, h1, h2, h3, h4, hl0, hln⟩ := X1.box
    have HB1 := Aside0.mk (below_step HBW.out HBr.out)
    have HL1 := Aside0.mk (HL.out.upd (Upd.of_below (E := fun _ => False) HB1.out) (fun _ _ h => h))
    have HB2 := Aside0.mk (HB.out.trans (HB1.out.mono HB.out.size))
    by_cases hlt : k < l.length
    · have hltb : decide (k < l.length) = true := decide_eq_true hlt
      obtain ⟨x, ad, A3, c3, B3, d3, hx, rfl, Z, hPx⟩ := HL1.out.get HB2.out k hlt
      obtain ⟨z0, z1, z2, z3, z4, zl0, zln⟩ := Z.cells
      have HX := Aside0.mk hx
      have HZ := Aside0.mk (show P41 wr x A3 c3 B3 d3 ∧ P41 wr t A c B d from ⟨Z.P, X1.P⟩)
      by_cases hsm : same x t = true
      · have HA : Aside0 (l.any (fun x => same x t) = true) := ⟨List.any_eq_true.2 ⟨x, List.mem_of_getElem? hx, hsm⟩⟩
        have HR := Aside0.mk (HE.out.trans (if_pos HA.out))
        clear hx
        go_wp2_with fail
        go_region_held3 (fun V => V.cell? (ad.add (k * 5)) = some (.int .i64 x.f0) ∧ V.cell? ⟨(ad.add (k * 5)).block, (ad.add (k * 5)).off + 1, none⟩ = some (.string x.f1) ∧ V.cell? ⟨(ad.add (k * 5)).block, (ad.add (k * 5)).off + 2, none⟩ = some (.string x.f2) ∧ V.cell? ⟨(ad.add (k * 5)).block, (ad.add (k * 5)).off + 3, none⟩ = some (.slice A3 x.f3.length c3) ∧ V.cell? ⟨(ad.add (k * 5)).block, (ad.add (k * 5)).off + 4, none⟩ = some (.slice B3 x.f4.length d3) ∧ V.cell? ⟨W.heap.size, 0, none⟩ = some (.int .i64 t.f0) ∧ V.cell? ⟨W.heap.size, 1, none⟩ = some (.string t.f1) ∧ V.cell? ⟨W.heap.size, 2, none⟩ = some (.string t.f2) ∧ V.cell? ⟨W.heap.size, 3, none⟩ = some (.slice A t.f3.length c) ∧ V.cell? ⟨W.heap.size, 4, none⟩ = some (.slice B t.f4.length d)) (go_keep) (first | (go_at_call 69; refine (ref_same x t A3 c3 B3 d3 A c B d _ (HZ.out.1.below (Below.refl _ _).drew) (HZ.out.2.below (Below.refl _ _).drew)).mono ?_; rintro e w1 ⟨rfl, hb⟩; have Z1 := (Z.below (Below.refl _ _).drew).below hb; have X2 := (X1.below (Below.refl _ _).drew).below hb; obtain ⟨a0, a1, a2, a3, a4, al0, aln⟩ := Z1.cells; obtain ⟨b0, b1, b2, b3, b4, bl0, bln⟩ := X2.box; have hb' := Aside0.mk (below_step HBr.out (below_step (Below.refl _ _).drew hb)); clear hb; rw [hsm]))
        go_wp2_with fail
        go_ret
        rw [HR.out]
        exact AtomsPost.self HL.out (below_step HBW.out hb'.out)
      · have hsm : same x t = false := by simpa using hsm
        have HN2 : Aside0 ((l.take (k + 1)).any (fun x => same x t) = false) := ⟨by rw [take_snoc hx, List.any_append, HN.out]; simp [hsm]⟩
        clear hx
        go_wp2_with fail
        go_region_held3 (fun V => V.cell? (ad.add (k * 5)) = some (.int .i64 x.f0) ∧ V.cell? ⟨(ad.add (k * 5)).block, (ad.add (k * 5)).off + 1, none⟩ = some (.string x.f1) ∧ V.cell? ⟨(ad.add (k * 5)).block, (ad.add (k * 5)).off + 2, none⟩ = some (.string x.f2) ∧ V.cell? ⟨(ad.add (k * 5)).block, (ad.add (k * 5)).off + 3, none⟩ = some (.slice A3 x.f3.length c3) ∧ V.cell? ⟨(ad.add (k * 5)).block, (ad.add (k * 5)).off + 4, none⟩ = some (.slice B3 x.f4.length d3) ∧ V.cell? ⟨W.heap.size, 0, none⟩ = some (.int .i64 t.f0) ∧ V.cell? ⟨W.heap.size, 1, none⟩ = some (.string t.f1) ∧ V.cell? ⟨W.heap.size, 2, none⟩ = some (.string t.f2) ∧ V.cell? ⟨W.heap.size, 3, none⟩ = some (.slice A t.f3.length c) ∧ V.cell? ⟨W.heap.size, 4, none⟩ = some (.slice B t.f4.length d)) (go_keep) (first | (go_at_call 69; refine (ref_same x t A3 c3 B3 d3 A c B d _ (HZ.out.1.below (Below.refl _ _).drew) (HZ.out.2.below (Below.refl _ _).drew)).mono ?_; rintro e w1 ⟨rfl, hb⟩; have Z1 := (Z.below (Below.refl _ _).drew).below hb; have X2 := (X1.below (Below.refl _ _).drew).below hb; obtain ⟨a0, a1, a2, a3, a4, al0, aln⟩ := Z1.cells; obtain ⟨b0, b1, b2, b3, b4, bl0, bln⟩ := X2.box; have hb' := Aside0.mk (below_step HBr.out (below_step (Below.refl _ _).drew hb)); clear hb; rw [hsm]))
        go_wp2_with fail
        refine ⟨⟨k + 1, by omega, by go_num, HN2, hb'⟩, ?_⟩
        simp [intOf]; omega
    · have hltb : decide (k < l.length) = false := decide_eq_false hlt
      have HR : Aside0 (atomsC t l = l ++ [t]) := ⟨by
        have h1 := HN.out
        rw [show k = l.length by omega, List.take_length] at h1
        rw [HE.out, h1]; rfl⟩
      clear HN HE
      have hlen : (l ++ [t]).length = l.length + 1 := by simp
      have HCS : Aside0 (RC w0 t [.int .i64 t.f0, .string t.f1, .string t.f2, .slice A t.f3.length c, .slice B t.f4.length d]) := ⟨A, c, B, d, rfl, HP.out⟩
      go_wp2_with (at_builtin; refine OwnRow.append (w0 := w0) (R := RC w0) w0.heap.size rfl (.tmp 47) (.tmp 49) 22 41 (.agg #[(.int .i64 0), (.string ⟨#[]⟩), (.string ⟨#[]⟩), (.slice none 0 0), (.slice none 0 0)]) 5 88 rfl Tryd.underlying22 info41 rfl (by omega) (by omega) (.slice A0 l.length c0) l t [.int .i64 t.f0, .string t.f1, .string t.f2, .slice A t.f3.length c, .slice B t.f4.length d] rfl rfl HCS.out rfl (by simp [Value.oneCell']) HL1.out HB2.out HB2.out.size (by have := HS.out; omega) ?_; intro v1 w1 ho1 hb1 hg1 hat1)
      obtain ⟨A1, c1, rfl, hle⟩ := ho1.slice_
      go_ret
      rw [HR.out]
      exact ⟨A1, c1, rfl, ho1, (Upd.of_below HB1.out).grown hg1 (fun r e _ => e), OwnStep.trans (n := W.heap.size) (.inl rfl) hat1 HB1.out.size⟩

set_option maxHeartbeats 1000000 in
theorem ratoms_flat (t : S41) (h0 : t.f0 = 1 ∨ t.f0 = 2) : RAT t := by
  intro w0 A c B d A0 c0 l W hP hB hL hs
  have HR := Aside0.mk (show atomsC t l = l by rw [atomsC_eq, if_pos h0])
  have HBW := Aside0.mk (show Below W.heap.size W (W.alloc (.cells (c41 t A c B d) 41)) from below_alloc (Below.refl _ _) _)
  have HL := Aside0.mk hL
  clear hP hB hL hs
  rcases h0 with h | h
  · have q1 : (t.f0 == 1) = true := by simpa using h
    clear h
    go_enter Tryd.func63, Tryd.ntmps63
    go_wp2
    go_ret
    rw [HR.out]
    exact AtomsPost.self HL.out HBW.out
  · have q1 : (t.f0 == 1) = false := by simp; omega
    have q2 : (t.f0 == 2) = true := by simpa using h
    clear h
    go_enter Tryd.func63, Tryd.ntmps63
    go_wp2
    go_ret
    rw [HR.out]
    exact AtomsPost.self HL.out HBW.out

/-- The list so far, behind the first k claims. -/
def AtRel (us l : List S41) (w0 W0 : World) (v0 v i : Value) (wr : World) : Prop :=
  ∃ k A1 c1, k ≤ us.length ∧ i = .int .i64 (k : Nat) ∧ v = .slice A1 (atomsL (us.take k) l).length c1 ∧ Aside0 (AT w0 wr (.slice A1 (atomsL (us.take k) l).length c1) (atomsL (us.take k) l)) ∧ Aside0 (Upd (Ev v0) W0 wr) ∧ Aside0 (OwnStep W0.heap.size v0 (.slice A1 (atomsL (us.take k) l).length c1))
theorem AtRel.mk {us l : List S41} {w0 W0 : World} {v0 v i : Value} {wr : World} (k : Nat) (A1 : Option Addr) (c1 : Nat) (h1 : k ≤ us.length) (h2 : i = .int .i64 k) (h3 : v = .slice A1 (atomsL (us.take k) l).length c1) (h4 : AT w0 wr (.slice A1 (atomsL (us.take k) l).length c1) (atomsL (us.take k) l)) (h5 : Upd (Ev v0) W0 wr) (h6 : OwnStep W0.heap.size v0 (.slice A1 (atomsL (us.take k) l).length c1)) : AtRel us l w0 W0 v0 v i wr :=
  ⟨k, A1, c1, h1, h2, h3, ⟨h4⟩, ⟨h5⟩, ⟨h6⟩⟩

set_option maxRecDepth 100000 in
set_option maxHeartbeats 4000000 in
theorem ratoms_node (t : S41) (hop : 6 ≤ t.f0 ∧ t.f0 ≤ 10) (ih : ∀ (k : Nat) (x : S41), t.f4[k]? = some x → RAT x) : RAT t := by
  intro w0 A c B d A0 c0 l W hP hB hL hs
  have HR := Aside0.mk (show atomsC t l = atomsL t.f4 l by rw [atomsC_eq, if_neg (by omega), if_pos hop])
  have HIH := Aside0.mk ih
  have HSZ : Aside0 (l.length + (t.f4.map csize).sum ≤ 999999) := ⟨by rw [csize_eq, csizeL_sum] at hs; omega⟩
  have hlb := hP.C2.2.1
  have q1 : (t.f0 == 1) = false := by simp; omega
  have q2 : (t.f0 == 2) = false := by simp; omega
  have hq : ((t.f0 == 6) = true) ∨ ((t.f0 == 6) = false ∧ (t.f0 == 7) = true) ∨ ((t.f0 == 6) = false ∧ (t.f0 == 7) = false ∧ (t.f0 == 8) = true) ∨ ((t.f0 == 6) = false ∧ (t.f0 == 7) = false ∧ (t.f0 == 8) = false ∧ (t.f0 == 9) = true) ∨ ((t.f0 == 6) = false ∧ (t.f0 == 7) = false ∧ (t.f0 == 8) = false ∧ (t.f0 == 9) = false ∧ (t.f0 == 10) = true) := by
    simp only [beq_iff_eq, beq_eq_false_iff_ne]; omega
  have HB := Aside0.mk hB
  have HL := Aside0.mk hL
  have HP := Aside0.mk hP
  have hBW : Below W.heap.size W (W.alloc (.cells (c41 t A c B d) 41)) := below_alloc (Below.refl _ _) _
  have X : (W.alloc (.cells (c41 t A c B d) 41)).heap[W.heap.size]? = some (.cells (c41 t A c B d) 41 (0, 0)) := blk_new _ _
  have HBW := Aside0.mk hBW
  have HX0 := Aside0.mk X
  have hx0 := blk_cell X 0
  clear hBW hP hB hL hs ih hop X
  rcases hq with e6 | ⟨e6, e7⟩ | ⟨e6, e7, e8⟩ | ⟨e6, e7, e8, e9⟩ | ⟨e6, e7, e8, e9, e10⟩
  all_goals
    go_enter Tryd.func63, Tryd.ntmps63
    go_upto_region 1 with fail
    generalize hW : W.alloc (.cells (c41 t A c B d) 41) = W0 at *
    clear hW
    go_wp2_with fail
    clear hx0
    have HL0 := Aside0.mk (HL.out.upd (Upd.of_below (E := fun _ => False) HBW.out) (fun _ _ h => h))
    go_loopw [0, 5] (fun v i wr => AtRel t.f4 l w0 W0 (.slice A0 l.length c0) v i wr) (fun _ i _ => t.f4.length - (intOf i).toNat)
    case atStart => exact AtRel.mk 0 A0 c0 (Nat.zero_le _) rfl rfl HL0.out (Upd.refl _ _) (.inl rfl)
    case round =>
      obtain ⟨k, A1, c1, hk, rfl, rfl, HA, HU, HO⟩ := hrel
      have HB0 := Aside0.mk (HB.out.trans (HBW.out.mono HB.out.size))
      have HB1 := Aside0.mk (HB0.out.trans (HU.out.below HB0.out.size (HL.out.below0)))
      have X1 := HU.out.blk HX0.out (fun e => Nat.lt_irrefl _ (HL.out.lt _ e))
      have x4 := blk_cell X1 4
      by_cases hlt : k < t.f4.length
      · have hltb : decide (k < t.f4.length) = true := decide_eq_true hlt
        obtain ⟨x, ad, A3, c3, B3, d3, hx, rfl, Z0⟩ := at41 HP.out.C2 k hlt
        have Z := Z0.below HB1.out
        obtain ⟨z0, z1, z2, z3, z4, zl0, zln⟩ := Z.cells
        have HX := Aside0.mk (HIH.out k x hx)
        have HPx := Aside0.mk Z0.P
        have HE := Aside0.mk (atomsL_take hx l)
        have HSz : Aside0 ((atomsL (t.f4.take k) l).length + csize x ≤ 1000000) := ⟨by
          have h1 := atomsT_len t.f4 l k
          have h2 := sumTo_step csize hx
          have h3 := sumTo_le csize t.f4 (k + 1)
          have := HSZ.out
          omega⟩
        clear hx Z0
        generalize atomsL (t.f4.take k) l = L at *
        go_wp2_with (first | (go_at_call 63; refine (HX.out w0 A3 c3 B3 d3 A1 c1 L _ HPx.out HB1.out HA.out HSz.out).mono ?_; rintro e w1 ⟨A2, c2, rfl, ha2, hu2, ho2⟩; have HA2 := Aside0.mk ha2; have HU2 := Aside0.mk (HU.out.own HO.out hu2); have HO2 := Aside0.mk (HO.out.trans ho2 HU.out.size); clear ha2 hu2 ho2))
        refine ⟨?_, by simp [intOf]; omega⟩
        exact AtRel.mk (k + 1) A2 c2 (by omega) (by go_num) (by rw [HE.out]) (by rw [HE.out]; exact HA2.out) HU2.out (by rw [HE.out]; exact HO2.out)
      · have hltb : decide (k < t.f4.length) = false := decide_eq_false hlt
        have hk2 : t.f4.take k = t.f4 := List.take_of_length_le (by omega)
        rw [hk2] at HA HO
        go_wp2_with fail
        go_ret
        rw [HR.out, hk2]
        exact ⟨A1, c1, rfl, HA.out, (Upd.of_below HBW.out).trans HU.out, OwnStep.trans (n := W.heap.size) (.inl rfl) HO.out HBW.out.size⟩

theorem ratoms_all (q : Nat) : ∀ (t : S41), csize t ≤ q → RAT t := by
  induction q with
  | zero => intro t h; rw [csize_eq] at h; omega
  | succ q ih =>
    intro t hq
    by_cases h0 : t.f0 = 1 ∨ t.f0 = 2
    · exact ratoms_flat t h0
    · by_cases h1 : 6 ≤ t.f0 ∧ t.f0 ≤ 10
      · exact ratoms_node t h1 (fun k x hx => ih x (by have := csize_sub hx; omega))
      · exact ratoms_leaf t h0 h1
theorem ref_atoms (t : S41) : RAT t := ratoms_all _ t (Nat.le_refl _)
end Go.Proofs.YtbfgoopomfenjaaDoor
