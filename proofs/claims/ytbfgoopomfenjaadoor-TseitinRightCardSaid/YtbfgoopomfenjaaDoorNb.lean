import Derived.Test.YtbfgoopomfenjaaDoorMe
import Derived.Test.YtbfgoopomfenjaaDoorMf
import Derived.Test.YtbfgoopomfenjaaDoorMg
import Derived.Test.YtbfgoopomfenjaaDoorNa
import Derived.ProofKit
import Derived.OpenShut
import Derived.Test.YtbfgoopomfenjaaDoorMb
import Derived.Test.YtbfgoopomfenjaaDoorRows
import Derived.WalkKit
import Derived.ChangeOld
import Derived.Below
import Derived.LaidMore
import Derived.Stop.Joined
namespace Go.Proofs.YtbfgoopomfenjaaDoor
open Go.RowKit Go.Proofs.YtbfgoopomfenjaaDoorW.PrintWords Go.Proofs.YtbfgoopomfenjaaDoor.PTseitinValues

theorem lay_all (w0 : World) (at_ : List S41) (bA bL bO : Nat) (q : Nat) : ∀ (t : S41), csize t ≤ q → PL w0 at_ bA bL bO t := by
  induction q with
  | zero => intro t h; rw [csize_eq] at h; omega
  | succ q ih =>
    intro t hq
    have h : ∀ (k : Nat) (x : S41), t.f4[k]? = some x → PL w0 at_ bA bL bO x := fun k x hx => ih x (by have := csize_sub hx; omega)
    cases hp : isPart t.f0 with
    | false => exact lay_atom w0 at_ bA bL bO t hp
    | true =>
      obtain hop | hop | hop | hop | hop | hop | hop : t.f0 = 1 ∨ t.f0 = 2 ∨ t.f0 = 6 ∨ t.f0 = 7 ∨ t.f0 = 8 ∨ t.f0 = 9 ∨ t.f0 = 10 := by
        unfold isPart at hp; simp only [Bool.or_eq_true, Bool.and_eq_true, beq_iff_eq, decide_eq_true_eq] at hp; omega
      · exact lay_node_a w0 at_ bA bL bO t hp (.inl hop) h
      · exact lay_node_a w0 at_ bA bL bO t hp (.inr (.inl hop)) h
      · exact lay_node_a w0 at_ bA bL bO t hp (.inr (.inr hop)) h
      · exact lay_node_b w0 at_ bA bL bO t hp hop h
      · exact lay_node_c w0 at_ bA bL bO t hp hop h
      · exact lay_node_d w0 at_ bA bL bO t hp hop h
      · exact lay_node_e w0 at_ bA bL bO t hp hop h
/-- tseitin.Of$1's contract. -/
theorem ts_lay (w0 : World) (at_ : List S41) (bA bL bO : Nat) (t : S41) : PL w0 at_ bA bL bO t := lay_all w0 at_ bA bL bO _ t (Nat.le_refl _)
end Go.Proofs.YtbfgoopomfenjaaDoor
namespace Go.Proofs.YtbfgoopomfenjaaDoor
open Go.RowKit Go.Proofs.YtbfgoopomfenjaaDoorW.PrintWords Go.Proofs.YtbfgoopomfenjaaDoor.PTseitinValues

/-- tseitin.Of's contract. -/
theorem prog_Of (w0 : World) (cs : List S41) (A : Option Addr) (c : Nat) (W : World) (hB : Below w0.heap.size w0 W) (hC : k41.C w0 A cs.length cs) (hN : Needs W) (hs : ∀ x ∈ cs, csize x ≤ 4096) (hsum : (cs.map csize).sum ≤ 900000) :
    Calls Tryd.prog 11 #[.slice A cs.length c] W (OfOut w0 (ofR cs) W) := by
  rw [← ofP_ofR]
  by_cases hz : firstNZ (cs.map cright) = 0
  · exact of_right w0 cs A c W (fun at_ bA bL bO t => ts_lay w0 at_ bA bL bO t) hB hC hN hs hsum hz
  · exact of_wrong w0 cs A c W hB hC hN hs hz
end Go.Proofs.YtbfgoopomfenjaaDoor
namespace Go.Proofs.YtbfgoopomfenjaaDoor
open Go.RowKit Go.Proofs.YtbfgoopomfenjaaDoorW.PrintWords Go.Proofs.YtbfgoopomfenjaaDoorW.PrintLast Go.Proofs.YtbfgoopomfenjaaDoor.PTseitinValues
set_option linter.unusedVariables false
set_option linter.unusedSimpArgs false
attribute [local go_sem] World.cell?_alloc_lt

abbrev kI : Kd Int := Kd.int .i64
abbrev kB : Kd Bool := Kd.bool
theorem deq_drop {α : Type} [DecidableEq α] {xs ys : List α} {k : Nat} {x y : α} (hx : xs[k]? = some x) (hy : ys[k]? = some y) : decide (xs.drop k = ys.drop k) = (decide (x = y) && decide (xs.drop (k + 1) = ys.drop (k + 1))) := by
  obtain ⟨h1, rfl⟩ := List.getElem?_eq_some_iff.1 hx
  obtain ⟨h2, rfl⟩ := List.getElem?_eq_some_iff.1 hy
  rw [List.drop_eq_getElem_cons h1, List.drop_eq_getElem_cons h2]
  rw [← Bool.decide_and]
  exact decide_eq_decide.2 (by rw [List.cons.injEq])
theorem deq_end {α : Type} [DecidableEq α] {xs ys : List α} {k : Nat} (h : xs.length ≤ k) (h' : ys.length ≤ k) : decide (xs.drop k = ys.drop k) = true := by
  rw [List.drop_of_length_le h, List.drop_of_length_le h']; simp
theorem atI {w : World} {A : Option Addr} {n : Nat} {xs : List Int} (h : kI.C w A n xs) (k : Nat) (hk : k < n) : ∃ x ad, xs[k]? = some x ∧ A = some ad ∧ w.cell? (ad.add k) = some (.int .i64 x) ∧ (ad.add k).block < w.heap.size := by
  obtain ⟨ad, rfl, hc⟩ := h.2.2 (by omega)
  have hkl : k < xs.length := by rw [h.1]; exact hk
  obtain ⟨cs, _, hK, hcell⟩ := hc k _ (List.getElem?_eq_getElem hkl)
  have hK : cs = [.int .i64 xs[k]] := hK
  subst hK
  have h0 := hcell 0 _ rfl
  rw [show k * (Kd.int .i64).sz + 0 = k from Nat.mul_one k] at h0
  exact ⟨xs[k], ad, List.getElem?_eq_getElem hkl, rfl, h0, World.block_lt_of_cell? w _ h0⟩
theorem atB {w : World} {A : Option Addr} {n : Nat} {xs : List Bool} (h : kB.C w A n xs) (k : Nat) (hk : k < n) : ∃ x ad, xs[k]? = some x ∧ A = some ad ∧ w.cell? (ad.add k) = some (.bool x) ∧ (ad.add k).block < w.heap.size := by
  obtain ⟨ad, rfl, hc⟩ := h.2.2 (by omega)
  have hkl : k < xs.length := by rw [h.1]; exact hk
  obtain ⟨cs, _, hK, hcell⟩ := hc k _ (List.getElem?_eq_getElem hkl)
  have hK : cs = [.bool xs[k]] := hK
  subst hK
  have h0 := hcell 0 _ rfl
  rw [show k * Kd.bool.sz + 0 = k from Nat.mul_one k] at h0
  exact ⟨xs[k], ad, List.getElem?_eq_getElem hkl, rfl, h0, World.block_lt_of_cell? w _ h0⟩
theorem atL {w : World} {A : Option Addr} {n : Nat} {xs : List (List Int)} (h : kL.C w A n xs) (k : Nat) (hk : k < n) : ∃ x ad B d, xs[k]? = some x ∧ A = some ad ∧ w.cell? (ad.add k) = some (.slice B x.length d) ∧ x.length ≤ d ∧ kI.C w B x.length x ∧ (ad.add k).block < w.heap.size := by
  obtain ⟨ad, rfl, hc⟩ := h.2.2 (by omega)
  have hkl : k < xs.length := by rw [h.1]; exact hk
  obtain ⟨cs, _, hK, hcell⟩ := hc k _ (List.getElem?_eq_getElem hkl)
  obtain ⟨B, d, rfl, hl, hC⟩ := hK
  have h0 := hcell 0 _ rfl
  rw [show k * kL.sz + 0 = k from Nat.mul_one k] at h0
  exact ⟨xs[k], ad, B, d, List.getElem?_eq_getElem hkl, rfl, h0, hl, hC, World.block_lt_of_cell? w _ h0⟩

set_option maxRecDepth 100000 in
set_option maxHeartbeats 1000000 in
/-- base.Ints -/
theorem base_ints (xs ys : List Int) (A : Option Addr) (c : Nat) (B : Option Addr) (d : Nat) (w : World) (ha : kI.C w A xs.length xs) (hb : kI.C w B ys.length ys) :
    Calls Tryd.prog 53 #[.slice A xs.length c, .slice B ys.length d] w fun e w' => e = .returned (.bool (decide (xs = ys))) ∧ Below w.heap.size w w' := by
  have HA := Aside0.mk ha
  have HB := Aside0.mk hb
  have hla := ha.2.1
  have hlb := hb.2.1
  clear ha hb
  by_cases hne : xs.length = ys.length
  · have hnb : ((xs.length : Int) != (ys.length : Int)) = false := by rw [hne]; simp
    have HGE : Aside0 (ys.length ≤ xs.length) := ⟨by omega⟩
    have hle : xs.length ≤ ys.length := by omega
    clear hne
    go_enter Tryd.func53, Tryd.ntmps53
    go_wp2
    go_loopw [5] (fun i wr => ∃ k : Nat, k ≤ xs.length ∧ i = .int .i64 k ∧ Aside0 (decide (xs = ys) = decide (xs.drop k = ys.drop k)) ∧ Aside0 (Below w.heap.size w wr)) (fun i _ => xs.length - (intOf i).toNat)
    case atStart => exact ⟨0, Nat.zero_le _, rfl, ⟨rfl⟩, ⟨Below.refl _ _⟩⟩
    case round =>
      obtain ⟨k, hk, rfl, HF, HBW⟩ := hrel
      by_cases hlt : k < xs.length
      · have hlt2 : k < ys.length := by omega
        have HA1 := Kd.C_below (HA.out) HBW.out
        have HB1 := Kd.C_below (HB.out) HBW.out
        obtain ⟨x, ad, hx, rfl, zx, zl⟩ := atI HA1 k hlt
        obtain ⟨y, bd, hy, rfl, vx, vl⟩ := atI HB1 k hlt2
        have HF1 := Aside0.mk (HF.out.trans (deq_drop hx hy))
        clear hx hy HA1 HB1
        by_cases hz : x = y
        · have hzb : (x != y) = false := by simpa using hz
          have HF2 := Aside0.mk (HF1.out.trans (by rw [decide_eq_true hz, Bool.true_and]))
          clear hz
          go_wp2_with fail
          go_region_held3 (fun V => V.cell? (ad.add k) = some (.int .i64 x) ∧ V.cell? (bd.add k) = some (.int .i64 y)) (go_keep) (fail)
          all_goals go_wp2_with fail
          all_goals (refine ⟨⟨k + 1, by omega, by go_num, HF2, ⟨HBW.out.drew⟩⟩, ?_⟩; simp [intOf]; omega)
        · have hzb : (x != y) = true := by simpa using hz
          have HF2 := Aside0.mk (HF1.out.trans (by rw [decide_eq_false hz, Bool.false_and]))
          clear hz
          go_wp2_with fail
          go_region_held3 (fun V => V.cell? (ad.add k) = some (.int .i64 x) ∧ V.cell? (bd.add k) = some (.int .i64 y)) (go_keep) (fail)
          all_goals go_wp2_with fail
          all_goals go_ret
          all_goals exact ⟨by rw [HF2.out]; rfl, HBW.out.drew⟩
      · have HF1 := Aside0.mk (HF.out.trans (deq_end (by omega) (by have := HGE.out; omega)))
        go_wp2_with fail
        go_ret
        exact ⟨by rw [HF1.out]; rfl, HBW.out⟩
  · have hnb : ((xs.length : Int) != (ys.length : Int)) = true := by rw [bne_iff_ne]; omega
    have HF1 : Aside0 (decide (xs = ys) = false) := ⟨decide_eq_false (fun h => hne (by rw [h]))⟩
    clear hne
    go_enter Tryd.func53, Tryd.ntmps53
    go_wp2
    go_ret
    exact ⟨by rw [HF1.out]; rfl, Below.refl _ _⟩

set_option maxRecDepth 100000 in
set_option maxHeartbeats 1000000 in
/-- base.Bools -/
theorem base_bools (xs ys : List Bool) (A : Option Addr) (c : Nat) (B : Option Addr) (d : Nat) (w : World) (ha : kB.C w A xs.length xs) (hb : kB.C w B ys.length ys) :
    Calls Tryd.prog 17 #[.slice A xs.length c, .slice B ys.length d] w fun e w' => e = .returned (.bool (decide (xs = ys))) ∧ Below w.heap.size w w' := by
  have HA := Aside0.mk ha
  have HB := Aside0.mk hb
  have hla := ha.2.1
  have hlb := hb.2.1
  clear ha hb
  by_cases hne : xs.length = ys.length
  · have hnb : ((xs.length : Int) != (ys.length : Int)) = false := by rw [hne]; simp
    have HGE : Aside0 (ys.length ≤ xs.length) := ⟨by omega⟩
    have hle : xs.length ≤ ys.length := by omega
    clear hne
    go_enter Tryd.func17, Tryd.ntmps17
    go_wp2
    go_loopw [5] (fun i wr => ∃ k : Nat, k ≤ xs.length ∧ i = .int .i64 k ∧ Aside0 (decide (xs = ys) = decide (xs.drop k = ys.drop k)) ∧ Aside0 (Below w.heap.size w wr)) (fun i _ => xs.length - (intOf i).toNat)
    case atStart => exact ⟨0, Nat.zero_le _, rfl, ⟨rfl⟩, ⟨Below.refl _ _⟩⟩
    case round =>
      obtain ⟨k, hk, rfl, HF, HBW⟩ := hrel
      by_cases hlt : k < xs.length
      · have hlt2 : k < ys.length := by omega
        have HA1 := Kd.C_below (HA.out) HBW.out
        have HB1 := Kd.C_below (HB.out) HBW.out
        obtain ⟨x, ad, hx, rfl, zx, zl⟩ := atB HA1 k hlt
        obtain ⟨y, bd, hy, rfl, vx, vl⟩ := atB HB1 k hlt2
        have HF1 := Aside0.mk (HF.out.trans (deq_drop hx hy))
        clear hx hy HA1 HB1
        cases x <;> cases y
        · go_wp2_with fail
          go_region_held3 (fun V => V.cell? (ad.add k) = some (.bool false) ∧ V.cell? (bd.add k) = some (.bool false)) (go_keep) (fail)
          all_goals go_wp2_with fail
          all_goals first
            | (refine ⟨⟨k + 1, by omega, by go_num, ⟨HF1.out.trans (by simp)⟩, ⟨HBW.out.drew⟩⟩, ?_⟩; simp [intOf]; omega)
            | (go_ret; exact ⟨by rw [HF1.out]; rfl, HBW.out.drew⟩)
        · go_wp2_with fail
          go_region_held3 (fun V => V.cell? (ad.add k) = some (.bool false) ∧ V.cell? (bd.add k) = some (.bool true)) (go_keep) (fail)
          all_goals go_wp2_with fail
          all_goals first
            | (refine ⟨⟨k + 1, by omega, by go_num, ⟨HF1.out.trans (by simp)⟩, ⟨HBW.out.drew⟩⟩, ?_⟩; simp [intOf]; omega)
            | (go_ret; exact ⟨by rw [HF1.out]; rfl, HBW.out.drew⟩)
        · go_wp2_with fail
          go_region_held3 (fun V => V.cell? (ad.add k) = some (.bool true) ∧ V.cell? (bd.add k) = some (.bool false)) (go_keep) (fail)
          all_goals go_wp2_with fail
          all_goals first
            | (refine ⟨⟨k + 1, by omega, by go_num, ⟨HF1.out.trans (by simp)⟩, ⟨HBW.out.drew⟩⟩, ?_⟩; simp [intOf]; omega)
            | (go_ret; exact ⟨by rw [HF1.out]; rfl, HBW.out.drew⟩)
        · go_wp2_with fail
          go_region_held3 (fun V => V.cell? (ad.add k) = some (.bool true) ∧ V.cell? (bd.add k) = some (.bool true)) (go_keep) (fail)
          all_goals go_wp2_with fail
          all_goals first
            | (refine ⟨⟨k + 1, by omega, by go_num, ⟨HF1.out.trans (by simp)⟩, ⟨HBW.out.drew⟩⟩, ?_⟩; simp [intOf]; omega)
            | (go_ret; exact ⟨by rw [HF1.out]; rfl, HBW.out.drew⟩)
      · have HF1 := Aside0.mk (HF.out.trans (deq_end (by omega) (by have := HGE.out; omega)))
        go_wp2_with fail
        go_ret
        exact ⟨by rw [HF1.out]; rfl, HBW.out⟩
  · have hnb : ((xs.length : Int) != (ys.length : Int)) = true := by rw [bne_iff_ne]; omega
    have HF1 : Aside0 (decide (xs = ys) = false) := ⟨decide_eq_false (fun h => hne (by rw [h]))⟩
    clear hne
    go_enter Tryd.func17, Tryd.ntmps17
    go_wp2
    go_ret
    exact ⟨by rw [HF1.out]; rfl, Below.refl _ _⟩

set_option maxRecDepth 100000 in
set_option maxHeartbeats 1000000 in
/-- base.Lits -/
theorem base_lits (xs ys : List (List Int)) (A : Option Addr) (c : Nat) (B : Option Addr) (d : Nat) (w : World) (ha : kL.C w A xs.length xs) (hb : kL.C w B ys.length ys) :
    Calls Tryd.prog 27 #[.slice A xs.length c, .slice B ys.length d] w fun e w' => e = .returned (.bool (decide (xs = ys))) ∧ Below w.heap.size w w' := by
  have HA := Aside0.mk ha
  have HB := Aside0.mk hb
  have hla := ha.2.1
  have hlb := hb.2.1
  clear ha hb
  by_cases hne : xs.length = ys.length
  · have hnb : ((xs.length : Int) != (ys.length : Int)) = false := by rw [hne]; simp
    have HGE : Aside0 (ys.length ≤ xs.length) := ⟨by omega⟩
    have hle : xs.length ≤ ys.length := by omega
    clear hne
    go_enter Tryd.func27, Tryd.ntmps27
    go_wp2
    go_loopw [5] (fun i wr => ∃ k : Nat, k ≤ xs.length ∧ i = .int .i64 k ∧ Aside0 (decide (xs = ys) = decide (xs.drop k = ys.drop k)) ∧ Aside0 (Below w.heap.size w wr)) (fun i _ => xs.length - (intOf i).toNat)
    case atStart => exact ⟨0, Nat.zero_le _, rfl, ⟨rfl⟩, ⟨Below.refl _ _⟩⟩
    case round =>
      obtain ⟨k, hk, rfl, HF, HBW⟩ := hrel
      by_cases hlt : k < xs.length
      · have hlt2 : k < ys.length := by omega
        have HA1 := Kd.C_below (HA.out) HBW.out
        have HB1 := Kd.C_below (HB.out) HBW.out
        obtain ⟨x, ad, A3, c3, hx, rfl, zx, zle, zC, zl⟩ := atL HA1 k hlt
        obtain ⟨y, bd, B3, d3, hy, rfl, vx, vle, vC, vl⟩ := atL HB1 k hlt2
        have HF1 := Aside0.mk (HF.out.trans (deq_drop hx hy))
        have HZ := Aside0.mk zC
        have HV := Aside0.mk vC
        clear hx hy HA1 HB1 zC vC
        by_cases hz : x = y
        · have hzb : decide (x = y) = true := decide_eq_true hz
          have HF2 := Aside0.mk (HF1.out.trans (by rw [decide_eq_true hz, Bool.true_and]))
          clear hz
          go_wp2_with fail
          go_region_held3 (fun V => V.cell? (ad.add k) = some (.slice A3 x.length c3) ∧ V.cell? (bd.add k) = some (.slice B3 y.length d3)) (go_keep) (first | (go_at_call 53; refine (base_ints x y A3 c3 B3 d3 _ (Kd.C_below HZ.out (Below.refl _ _).drew) (Kd.C_below HV.out (Below.refl _ _).drew)).mono ?_; rintro e w1 ⟨rfl, hb⟩; rw [hzb]; have HBN := Aside0.mk (below_step HBW.out (below_step (Below.refl _ _).drew hb)); have g0 := (hb.cell (p := ad.add k) zl).trans zx; have g1 := (hb.cell (p := bd.add k) vl).trans vx; have g2 := Nat.lt_of_lt_of_le zl hb.size; have g3 := Nat.lt_of_lt_of_le vl hb.size; clear hb))
          all_goals go_wp2_with fail
          all_goals (refine ⟨⟨k + 1, by omega, by go_num, HF2, HBN⟩, ?_⟩; simp [intOf]; omega)
        · have hzb : decide (x = y) = false := decide_eq_false hz
          have HF2 := Aside0.mk (HF1.out.trans (by rw [decide_eq_false hz, Bool.false_and]))
          clear hz
          go_wp2_with fail
          go_region_held3 (fun V => V.cell? (ad.add k) = some (.slice A3 x.length c3) ∧ V.cell? (bd.add k) = some (.slice B3 y.length d3)) (go_keep) (first | (go_at_call 53; refine (base_ints x y A3 c3 B3 d3 _ (Kd.C_below HZ.out (Below.refl _ _).drew) (Kd.C_below HV.out (Below.refl _ _).drew)).mono ?_; rintro e w1 ⟨rfl, hb⟩; rw [hzb]; have HBN := Aside0.mk (below_step HBW.out (below_step (Below.refl _ _).drew hb)); have g0 := (hb.cell (p := ad.add k) zl).trans zx; have g1 := (hb.cell (p := bd.add k) vl).trans vx; have g2 := Nat.lt_of_lt_of_le zl hb.size; have g3 := Nat.lt_of_lt_of_le vl hb.size; clear hb))
          all_goals go_wp2_with fail
          all_goals go_ret
          all_goals exact ⟨by rw [HF2.out]; rfl, HBN.out⟩
      · have HF1 := Aside0.mk (HF.out.trans (deq_end (by omega) (by have := HGE.out; omega)))
        go_wp2_with fail
        go_ret
        exact ⟨by rw [HF1.out]; rfl, HBW.out⟩
  · have hnb : ((xs.length : Int) != (ys.length : Int)) = true := by rw [bne_iff_ne]; omega
    have HF1 : Aside0 (decide (xs = ys) = false) := ⟨decide_eq_false (fun h => hne (by rw [h]))⟩
    clear hne
    go_enter Tryd.func27, Tryd.ntmps27
    go_wp2
    go_ret
    exact ⟨by rw [HF1.out]; rfl, Below.refl _ _⟩
end Go.Proofs.YtbfgoopomfenjaaDoor
namespace Go.Proofs.YtbfgoopomfenjaaDoor
open Go.RowKit Go.Proofs.YtbfgoopomfenjaaDoorW.PrintWords Go.Proofs.YtbfgoopomfenjaaDoorW.PrintLast Go.Proofs.YtbfgoopomfenjaaDoor.PTseitinValues
set_option linter.unusedVariables false
set_option linter.unusedSimpArgs false
attribute [local go_sem] World.cell?_alloc_lt

def p0 : S41 := ⟨3, ⟨#[112]⟩, ⟨#[]⟩, [], []⟩
def n0_ : S41 := ⟨6, ⟨#[]⟩, ⟨#[]⟩, [], [p0]⟩
def a0_ : S41 := ⟨7, ⟨#[]⟩, ⟨#[]⟩, [], [p0, n0_]⟩
theorem cright_a0 : cright a0_ = 0 := by
  have h1 : cdep 65 a0_ = 3 := by rfl
  have h2 : csize a0_ = 4 := by rfl
  unfold cright
  rw [h1, h2, if_neg (by decide), if_neg (by decide)]
  have e0 : (⟨#[]⟩ : ByteArray).toList = [] := by rw [toList_data]
  have hp : cparts p0 = 0 := by
    rw [cparts_eq]
    simp [p0, cform, cari, caN, csN, bind, firstNZ, e0]
  have hn : cparts n0_ = 0 := by
    rw [cparts_eq]
    simp [n0_, cform, cari, caN, csN, bind, firstNZ, e0, hp]
  rw [cparts_eq]
  simp [a0_, cform, cari, caN, csN, bind, firstNZ, e0, hp, hn]
theorem atoms_a0 : atomsL [a0_] [] = [p0] := by
  have hs : same p0 p0 = true := by rw [same_eq]; simp [p0, tcmpL, sameL]
  have hp : ∀ l, atomsC p0 l = if l.any (fun x => same x p0) = true then l else l ++ [p0] := fun l => by rw [atomsC_eq]; simp [p0]
  have hn : ∀ l, atomsC n0_ l = atomsC p0 l := fun l => by rw [atomsC_eq]; simp [n0_, atomsL]
  rw [atomsL, atomsL, atomsC_eq]
  simp [a0_, atomsL, hn, hp, hs]
theorem lay_a0 : layC false [p0] a0_ ⟨1, []⟩ = (⟨3, [[-2, -1], [2, 1], [-3, 1], [-3, 2], [3, -1, -2]]⟩, 3) := by
  have hs : same p0 p0 = true := by rw [same_eq]; simp [p0, tcmpL, sameL]
  have hpp : posn [p0] p0 = 0 := by simp [posn, hs]
  have hp : ∀ st, layC false [p0] p0 st = (st, 1) := fun st => by rw [layC_atom _ _ _ _ (by simp [p0, isPart]), hpp]; rfl
  have hn : ∀ st, layC false [p0] n0_ st = (⟨st.n + 1, st.l ++ [[-((st.n + 1 : Nat) : Int), -1], [((st.n + 1 : Nat) : Int), 1]]⟩, ((st.n + 1 : Nat) : Int)) := fun st => by
    rw [layC_part _ _ _ _ (by simp [n0_, isPart])]
    simp [n0_, layL, hp, cls]
  rw [layC_part _ _ _ _ (by simp [a0_, isPart])]
  simp [a0_, layL, hp, hn, cls]
theorem of_alive : ofR [a0_] = ⟨3, [[-2, -1], [2, 1], [-3, 1], [-3, 2], [3, -1, -2], [3]], [p0], 0⟩ := by
  unfold ofR
  rw [if_neg (by simp [cright_a0, firstNZ]), atoms_a0]
  simp [topR, lay_a0, ofEnd]
end Go.Proofs.YtbfgoopomfenjaaDoor
namespace Go.Proofs.YtbfgoopomfenjaaDoor
open Go.RowKit Go.Proofs.YtbfgoopomfenjaaDoorW.PrintWords Go.Proofs.YtbfgoopomfenjaaDoorW.PrintLast Go.Proofs.YtbfgoopomfenjaaDoor.PTseitinValues
set_option linter.unusedVariables false
set_option linter.unusedSimpArgs false
attribute [local go_sem] World.cell?_alloc_lt
attribute [local go_sem] run_store_fn

theorem rows6 (F : Nat → Prop) (W : World) (r1 r2 r3 r4 r5 r6 : List Int) (hF : ∀ i, W.heap.size ≤ i → F i) (h1 : r1.length ≤ 1000) (h2 : r2.length ≤ 1000) (h3 : r3.length ≤ 1000) (h4 : r4.length ≤ 1000) (h5 : r5.length ≤ 1000) (h6 : r6.length ≤ 1000) {A B C D E G H : World} (hA : A = W.alloc (.cells (nums .i64 r1).toArray 3)) (hB : B = A.alloc (.cells (nums .i64 r2).toArray 3)) (hC : C = B.alloc (.cells (nums .i64 r3).toArray 3)) (hD : D = C.alloc (.cells (nums .i64 r4).toArray 3)) (hE : E = D.alloc (.cells (nums .i64 r5).toArray 3)) (hG : G = E.alloc (.cells (nums .i64 r6).toArray 3)) (hH : H = G.alloc (.cells [.slice (some ⟨W.heap.size, 0, none⟩) r1.length r1.length, .slice (some ⟨W.heap.size + 1, 0, none⟩) r2.length r2.length, .slice (some ⟨W.heap.size + 1 + 1, 0, none⟩) r3.length r3.length, .slice (some ⟨W.heap.size + 1 + 1 + 1, 0, none⟩) r4.length r4.length, .slice (some ⟨W.heap.size + 1 + 1 + 1 + 1, 0, none⟩) r5.length r5.length, .slice (some ⟨W.heap.size + 1 + 1 + 1 + 1 + 1, 0, none⟩) r6.length r6.length].toArray 54)) :
    Below W.heap.size W H ∧ ReadsRow (RI F H) 1 H (some ⟨W.heap.size + 1 + 1 + 1 + 1 + 1 + 1, 0, none⟩) 6 [r1, r2, r3, r4, r5, r6] := by
  have sA : A.heap.size = W.heap.size + 1 := by rw [hA, World.size_alloc]
  have sB : B.heap.size = W.heap.size + 1 + 1 := by rw [hB, World.size_alloc]; rw [sA]
  have sC : C.heap.size = W.heap.size + 1 + 1 + 1 := by rw [hC, World.size_alloc]; rw [sB]
  have sD : D.heap.size = W.heap.size + 1 + 1 + 1 + 1 := by rw [hD, World.size_alloc]; rw [sC]
  have sE : E.heap.size = W.heap.size + 1 + 1 + 1 + 1 + 1 := by rw [hE, World.size_alloc]; rw [sD]
  have sG : G.heap.size = W.heap.size + 1 + 1 + 1 + 1 + 1 + 1 := by rw [hG, World.size_alloc]; rw [sE]
  have sH : H.heap.size = W.heap.size + 1 + 1 + 1 + 1 + 1 + 1 + 1 := by rw [hH, World.size_alloc]; rw [sG]
  have b0 : Below W.heap.size W W := Below.refl _ _
  have b1 : Below W.heap.size W A := by rw [hA]; exact b0.alloc (by exact Nat.le_refl _) _
  have b2 : Below W.heap.size W B := by rw [hB]; exact b1.alloc (by rw [sA]; omega) _
  have b3 : Below W.heap.size W C := by rw [hC]; exact b2.alloc (by rw [sB]; omega) _
  have b4 : Below W.heap.size W D := by rw [hD]; exact b3.alloc (by rw [sC]; omega) _
  have b5 : Below W.heap.size W E := by rw [hE]; exact b4.alloc (by rw [sD]; omega) _
  have b6 : Below W.heap.size W G := by rw [hG]; exact b5.alloc (by rw [sE]; omega) _
  have b7 : Below W.heap.size W H := by rw [hH]; exact b6.alloc (by rw [sG]; omega) _
  have x1 : H.heap[W.heap.size]? = some (.cells (nums .i64 r1).toArray 3 (0, 0)) := by rw [hH]; exact blk_alloc (by rw [hG]; exact blk_alloc (by rw [hE]; exact blk_alloc (by rw [hD]; exact blk_alloc (by rw [hC]; exact blk_alloc (by rw [hB]; exact blk_alloc (by rw [hA]; exact blk_newAt _ _ _ rfl) _) _) _) _) _) _
  have x2 : H.heap[W.heap.size + 1]? = some (.cells (nums .i64 r2).toArray 3 (0, 0)) := by rw [hH]; exact blk_alloc (by rw [hG]; exact blk_alloc (by rw [hE]; exact blk_alloc (by rw [hD]; exact blk_alloc (by rw [hC]; exact blk_alloc (by rw [hB]; exact blk_newAt _ _ _ sA.symm) _) _) _) _) _
  have x3 : H.heap[W.heap.size + 1 + 1]? = some (.cells (nums .i64 r3).toArray 3 (0, 0)) := by rw [hH]; exact blk_alloc (by rw [hG]; exact blk_alloc (by rw [hE]; exact blk_alloc (by rw [hD]; exact blk_alloc (by rw [hC]; exact blk_newAt _ _ _ sB.symm) _) _) _) _
  have x4 : H.heap[W.heap.size + 1 + 1 + 1]? = some (.cells (nums .i64 r4).toArray 3 (0, 0)) := by rw [hH]; exact blk_alloc (by rw [hG]; exact blk_alloc (by rw [hE]; exact blk_alloc (by rw [hD]; exact blk_newAt _ _ _ sC.symm) _) _) _
  have x5 : H.heap[W.heap.size + 1 + 1 + 1 + 1]? = some (.cells (nums .i64 r5).toArray 3 (0, 0)) := by rw [hH]; exact blk_alloc (by rw [hG]; exact blk_alloc (by rw [hE]; exact blk_newAt _ _ _ sD.symm) _) _
  have x6 : H.heap[W.heap.size + 1 + 1 + 1 + 1 + 1]? = some (.cells (nums .i64 r6).toArray 3 (0, 0)) := by rw [hH]; exact blk_alloc (by rw [hG]; exact blk_newAt _ _ _ sE.symm) _
  refine ⟨b7, reads_lit (by rw [hH]; exact blk_newAt _ _ _ sG.symm) ?_ rfl (by omega)⟩
  exact Reps.snoc (Reps.snoc (Reps.snoc (Reps.snoc (Reps.snoc (Reps.snoc (Reps.none _ _) (RI.blk x1 (hF _ (by omega)) (by omega)) rfl) (RI.blk x2 (hF _ (by omega)) (by omega)) rfl) (RI.blk x3 (hF _ (by omega)) (by omega)) rfl) (RI.blk x4 (hF _ (by omega)) (by omega)) rfl) (RI.blk x5 (hF _ (by omega)) (by omega)) rfl) (RI.blk x6 (hF _ (by omega)) (by omega)) rfl
theorem RI.toK {F : Nat → Prop} {W : World} {p : List Int} {cs : List Value} (h : RI F W p cs) : kL.K W p cs := by
  obtain ⟨A, c, rfl, hl, hC, _⟩ := h
  exact ⟨A, c, rfl, hl, hC⟩
theorem cells_at {W : World} {b : Nat} {cs : List Value} {t : TypeId} (h : W.heap[b]? = some (.cells cs.toArray t (0, 0))) : ∀ j u, cs[j]? = some u → W.cell? ((⟨b, 0, none⟩ : Addr).add j) = some u := by
  intro j u hj
  have hz : (⟨b, 0, none⟩ : Addr).add j = ⟨b, j, none⟩ := by
    unfold Addr.add
    split
    · rename_i h0; subst h0; rfl
    · simp
  rw [hz]
  simp [World.cell?, h, hj]
/-- A literal row of claims is read. -/
theorem claims_lit {W : World} {b : Nat} {news : List Value} {M : List S41} {m : Nat} (h : W.heap[b]? = some (.cells news.toArray 41 (0, 0))) (hR : Reps (k41.K W) 5 M news) (hm : M.length = m) (hl : m ≤ 1000000) : k41.C W (some ⟨b, 0, none⟩) m M := by
  refine ⟨hm, by omega, fun _ => ⟨_, rfl, fun j p hj => ⟨(news.drop (j * 5)).take 5, ?_, hR.2 j p hj, fun i u hi => ?_⟩⟩⟩
  · have := hR.1
    have hjl := (List.getElem?_eq_some_iff.1 hj).1
    rw [List.length_take, List.length_drop]
    show min 5 _ = 5
    omega
  · rw [List.getElem?_take] at hi
    split at hi
    · rename_i h0
      rw [List.getElem?_drop] at hi
      exact cells_at h (j * 5 + i) u hi
    · cases hi
abbrev cp0 : List Value := [.int .i64 3, .string ⟨#[112]⟩, .string ⟨#[]⟩, .slice none 0 0, .slice none 0 0]
abbrev cn0 (N : Nat) : List Value := [.int .i64 6, .string ⟨#[]⟩, .string ⟨#[]⟩, .slice none 0 0, .slice (some ⟨N, 0, none⟩) 1 1]
abbrev ca0 (N : Nat) : List Value := [.int .i64 7, .string ⟨#[]⟩, .string ⟨#[]⟩, .slice none 0 0, .slice (some ⟨N, 0, none⟩) 2 2]
theorem alive_world (W : World) {A B C D : World} (hA : A = W.alloc (.cells cp0.toArray 41)) (hB : B = A.alloc (.cells cp0.toArray 41)) (hC : C = B.alloc (.cells (cp0 ++ cn0 (W.heap.size + 1)).toArray 41)) (hD : D = C.alloc (.cells (ca0 (W.heap.size + 1 + 1)).toArray 41)) :
    Below W.heap.size W D ∧ k41.C D (some ⟨W.heap.size + 1 + 1 + 1, 0, none⟩) 1 [a0_] := by
  have sA : A.heap.size = W.heap.size + 1 := by rw [hA, World.size_alloc]
  have sB : B.heap.size = W.heap.size + 1 + 1 := by rw [hB, World.size_alloc, sA]
  have sC : C.heap.size = W.heap.size + 1 + 1 + 1 := by rw [hC, World.size_alloc, sB]
  have b1 : Below W.heap.size W A := by rw [hA]; exact (Below.refl _ _).alloc (Nat.le_refl _) _
  have b2 : Below W.heap.size W B := by rw [hB]; exact b1.alloc (by rw [sA]; omega) _
  have b3 : Below W.heap.size W C := by rw [hC]; exact b2.alloc (by rw [sB]; omega) _
  have b4 : Below W.heap.size W D := by rw [hD]; exact b3.alloc (by rw [sC]; omega) _
  have x1 : D.heap[W.heap.size + 1]? = some (.cells cp0.toArray 41 (0, 0)) := by rw [hD]; exact blk_alloc (by rw [hC]; exact blk_alloc (by rw [hB]; exact blk_newAt _ _ _ sA.symm) _) _
  have x2 : D.heap[W.heap.size + 1 + 1]? = some (.cells (cp0 ++ cn0 (W.heap.size + 1)).toArray 41 (0, 0)) := by rw [hD]; exact blk_alloc (by rw [hC]; exact blk_newAt _ _ _ sB.symm) _
  have x3 : D.heap[W.heap.size + 1 + 1 + 1]? = some (.cells (ca0 (W.heap.size + 1 + 1)).toArray 41 (0, 0)) := by rw [hD]; exact blk_newAt _ _ _ sC.symm
  have kp : k41.K D p0 cp0 := k41_mk D p0 (A3 := none) (c3 := 0) (Nat.le_refl _) (C_nil _ _) (A4 := none) (c4 := 0) (Nat.le_refl _) (C_nil _ _)
  have cpp : k41.C D (some ⟨W.heap.size + 1, 0, none⟩) 1 [p0] := claims_lit x1 (Reps.snoc (Reps.none _ _) kp rfl) rfl (by omega)
  have kn : k41.K D n0_ (cn0 (W.heap.size + 1)) := k41_mk D n0_ (A3 := none) (c3 := 0) (Nat.le_refl _) (C_nil _ _) (c4 := 1) (Nat.le_refl _) cpp
  have cpn : k41.C D (some ⟨W.heap.size + 1 + 1, 0, none⟩) 2 [p0, n0_] := claims_lit x2 (Reps.snoc (Reps.snoc (Reps.none _ _) kp rfl) kn rfl) rfl (by omega)
  have ka : k41.K D a0_ (ca0 (W.heap.size + 1 + 1)) := k41_mk D a0_ (A3 := none) (c3 := 0) (Nat.le_refl _) (C_nil _ _) (c4 := 2) (Nat.le_refl _) cpn
  exact ⟨b4, claims_lit x3 (Reps.snoc (Reps.none _ _) ka rfl) rfl (by omega)⟩

set_option maxRecDepth 100000 in
set_option maxHeartbeats 2000000 in
/-- law 26's alive. -/
theorem law_alive (W : World) (hN : Needs W) : Calls Tryd.prog 10 #[] W fun e w' => e = .returned (.bool true) ∧ Below W.heap.size W w' := by
  obtain ⟨hb, hC⟩ := alive_world W rfl rfl rfl rfl
  have HB := Aside0.mk hb
  have HQ := Aside0.mk (prog_Of _ [a0_] _ 1 _ (Below.refl _ _) hC (hN.below hb) (fun x hx => by rw [List.mem_singleton.1 hx]; exact (by decide : csize a0_ ≤ 4096)) (by decide))
  clear hb hC hN
  rw [of_alive] at HQ
  go_enter Tryd.func10, Tryd.ntmps10
  go_upto_region 3 with (first | (go_at_call 11; refine HQ.out.mono ?_; rintro e w5 ⟨A1, c1, A2, c2, rfl, hle, hC5, hAT, hb5⟩; have HC5 := Aside0.mk hC5; have HB5 := Aside0.mk (HB.out.trans (hb5.mono HB.out.size)); clear hC5 hb5 hAT hle))
  have hX6 : (w5.alloc (.cells #[.int .i64 3, .slice A1 6 c1] 27)).heap[w5.heap.size]? = some (.cells #[.int .i64 3, .slice A1 6 c1] 27 (0, 0)) := blk_new _ _
  have HB6 := Aside0.mk (below_step HB5.out (below_alloc (Below.refl w5.heap.size w5) (.cells #[.int .i64 3, .slice A1 6 c1] 27)))
  have HC6 := Aside0.mk (Kd.C_below HC5.out (below_alloc (Below.refl w5.heap.size w5) (.cells #[.int .i64 3, .slice A1 6 c1] 27)))
  generalize hW : w5.alloc (.cells #[.int .i64 3, .slice A1 6 c1] 27) = w6 at *
  clear hW
  have q0 := blk_cell hX6 0
  have q1 := blk_cell hX6 1
  have ql := blk_lt hX6
  obtain ⟨hbr, hrr⟩ := rows6 (fun _ => True) w6 [-2, -1] [2, 1] [-3, 1] [-3, 2] [3, -1, -2] [3] (fun _ _ => trivial) (by decide) (by decide) (by decide) (by decide) (by decide) (by decide) rfl rfl rfl rfl rfl rfl rfl
  have HQ2 := Aside0.mk (base_lits [[-2, -1], [2, 1], [-3, 1], [-3, 2], [3, -1, -2], [3]] [[-2, -1], [2, 1], [-3, 1], [-3, 2], [3, -1, -2], [3]] A1 c1 _ 6 _ (Kd.C_below HC6.out hbr) (hrr.imp_ (Below.refl _ _) (fun _ _ h => h.toK)))
  have HBr := Aside0.mk (below_step HB6.out hbr)
  clear hbr hrr
  go_wp2_with (first | (go_at_call 27; refine HQ2.out.mono ?_; rintro e w7 ⟨rfl, hb⟩; have HB7 := Aside0.mk (below_step HBr.out hb); clear hb))
  go_ret
  exact ⟨by simp, HB7.out⟩
end Go.Proofs.YtbfgoopomfenjaaDoor
namespace Go.Proofs.YtbfgoopomfenjaaDoor
open Go.RowKit Go.Proofs.YtbfgoopomfenjaaDoorW.PrintWords Go.Proofs.YtbfgoopomfenjaaDoorW.PrintLast Go.Proofs.YtbfgoopomfenjaaDoor.PTseitinValues
set_option linter.unusedVariables false
set_option linter.unusedSimpArgs false

section
variable {H : Type} {enc : TypeId × Value → H} {w : World} {base : Nat} {spare : Nat → Bool} {held : Bool}
theorem c3 : Tryd.prog.cellsOf 3 = 1 := by kernel_rfl
theorem c2 : Tryd.prog.cellsOf 2 = 1 := by kernel_rfl
theorem c4 : Tryd.prog.cellsOf 4 = 1 := by kernel_rfl
theorem c9 : Tryd.prog.cellsOf 9 = 1 := by kernel_rfl
theorem c22 : Tryd.prog.cellsOf 22 = 1 := by kernel_rfl
theorem c39 : Tryd.prog.cellsOf 39 = 1 := by kernel_rfl
theorem c41_ : Tryd.prog.cellsOf 41 = 5 := by kernel_rfl
theorem c82_ : Tryd.prog.cellsOf 82 = 4 := by kernel_rfl
theorem open_i {k : IntKind} {t : TypeId} {n : Nat} {cs : List Value} {x : DataW H × List MemPlace} (ht : Tryd.prog.underlying t = some (.int k)) (h : DataW.trod enc Tryd.prog w base spare held n t cs = some x) : ∃ i : Int, cs = [.int k i] ∧ (Lit.int k i).wf = true := by
  obtain ⟨i, h1, _, h2⟩ := DataW.trod_int ht h
  exact ⟨i, h1, h2⟩
theorem open_b {t : TypeId} {n : Nat} {cs : List Value} {x : DataW H × List MemPlace} (ht : Tryd.prog.underlying t = some .bool) (h : DataW.trod enc Tryd.prog w base spare held n t cs = some x) : ∃ b : Bool, cs = [.bool b] := by
  obtain ⟨i, h1, _⟩ := DataW.trod_bool ht h
  exact ⟨i, h1⟩
theorem open_s {t : TypeId} {n : Nat} {cs : List Value} {x : DataW H × List MemPlace} (ht : Tryd.prog.underlying t = some .string) (h : DataW.trod enc Tryd.prog w base spare held n t cs = some x) : ∃ b : ByteArray, cs = [.string b] := by
  cases n with
  | zero => simp [DataW.trod] at h
  | succ n =>
    unfold DataW.trod at h
    rw [ht] at h
    split at h <;> simp_all
/-- A slice whose elements can be opened. -/
theorem open_row {α : Type} (d : Kd α) {t e : TypeId} {n : Nat} {cs : List Value} {x : DataW H × List MemPlace} (ht : Tryd.prog.underlying t = some (.slice e)) (hsz : Tryd.prog.cellsOf e = d.sz) (h : DataW.trod enc Tryd.prog w base spare held n t cs = some x)
    (he : ∀ m, m < n → ∀ cs x, DataW.trod enc Tryd.prog w base spare held m e cs = some x → ∃ v, d.K w v cs) : ∃ A c xs, cs = [.slice A (List.length xs) c] ∧ xs.length ≤ c ∧ d.C w A xs.length xs := by
  rcases DataW.trod_slice ht h with ⟨rfl, _⟩ | ⟨a, len, cap, elems, rest, m, rfl, rfl, _, _, hl, hm, hlen, hel, _, _⟩
  · exact ⟨none, 0, [], rfl, Nat.le_refl _, rfl, by simp, fun h => absurd h (by simp)⟩
  · have key : ∀ k, k ≤ len → ∃ xs : List α, xs.length = k ∧ ∀ j v, xs[j]? = some v → ∃ c, c.length = d.sz ∧ d.K w v c ∧ ∀ i u, c[i]? = some u → w.cell? (a.add (j * d.sz + i)) = some u := by
      intro k
      induction k with
      | zero => exact fun _ => ⟨[], rfl, fun j v h => by simp at h⟩
      | succ k ih =>
        intro hk
        obtain ⟨xs, hx, hxs⟩ := ih (by omega)
        have h1 := hel k (by omega)
        rw [List.getElem?_eq_getElem (by omega)] at h1
        obtain ⟨cs', h2, h3⟩ := Option.bind_eq_some_iff.1 h1
        obtain ⟨v, hv⟩ := he m (Nat.lt_succ_self _) cs' _ h3
        rw [hsz] at h2
        obtain ⟨_, hcl, hcell⟩ := World.cells?_some h2
        refine ⟨xs ++ [v], by rw [List.length_append, hx]; rfl, fun j y hj => ?_⟩
        rcases Nat.lt_or_ge j xs.length with hlt | hge
        · rw [List.getElem?_append_left hlt] at hj
          exact hxs j y hj
        · have hjk : j = xs.length := by
            have := (List.getElem?_eq_some_iff.1 hj).1
            rw [List.length_append] at this
            have h9 : [v].length = 1 := rfl
            omega
          subst hjk
          rw [List.getElem?_append_right (Nat.le_refl _), Nat.sub_self] at hj
          have : v = y := by simpa using hj
          subst this
          refine ⟨cs', hcl, hv, fun i u hi => ?_⟩
          have hil : i < d.sz := by rw [← hcl]; exact (List.getElem?_eq_some_iff.1 hi).1
          rw [← Addr.add_add, hx, hcell i hil]
          exact hi
    obtain ⟨xs, hx, hxs⟩ := key len (Nat.le_refl _)
    refine ⟨some a, cap, xs, by rw [hx], by omega, rfl, by simp only [maxLen] at hm; omega, fun _ => ⟨a, rfl, hxs⟩⟩
set_option maxRecDepth 100000 in
theorem open_K82 (n : Nat) : ∀ (cs : List Value) (x : DataW H × List MemPlace), DataW.trod enc Tryd.prog w base spare held n 82 cs = some x → ∃ v : S82, k82.K w v cs := by
  induction n using Nat.strongRecOn with
  | ind n ih =>
    intro cs x h
    obtain ⟨xs, m, rfl, _, hl, hlen, hf⟩ := DataW.trod_struct Tryd.underlying82 h
    rw [c82_] at hl
    have hlen4 : xs.length = 4 := hlen
    clear hlen
    match cs, hl, xs, hlen4, hf, h, ih with
    | [u0, u1, u2, u3], _, [y0, y1, y2, y3], _, hf, h, ih =>
      have h0 : DataW.trod enc Tryd.prog w base spare held m 3 (([u0, u1, u2, u3].drop 0).take (Tryd.prog.cellsOf 3)) = some y0 := hf 0 _ rfl
      have h1 : DataW.trod enc Tryd.prog w base spare held m 9 (([u0, u1, u2, u3].drop 1).take (Tryd.prog.cellsOf 9)) = some y1 := hf 1 _ rfl
      have h2 : DataW.trod enc Tryd.prog w base spare held m 2 (([u0, u1, u2, u3].drop 2).take (Tryd.prog.cellsOf 2)) = some y2 := hf 2 _ rfl
      have h3 : DataW.trod enc Tryd.prog w base spare held m 39 (([u0, u1, u2, u3].drop 3).take (Tryd.prog.cellsOf 39)) = some y3 := hf 3 _ rfl
      rw [c3] at h0
      rw [c9] at h1
      rw [c2] at h2
      rw [c39] at h3
      simp only [List.drop, List.take] at h0 h1 h2 h3
      obtain ⟨i0, e0, _⟩ := open_i Tryd.underlying3 h0
      obtain ⟨i1, e1⟩ := open_s Tryd.underlying9 h1
      obtain ⟨i2, e2, _⟩ := open_i Tryd.underlying2 h2
      obtain ⟨A, c, ts, e3, hle, hC⟩ := open_row k82 Tryd.underlying39 c82_ h3 (fun m' hm' => ih m' (by omega))
      simp only [List.cons.injEq, and_true] at e0 e1 e2 e3
      subst e0 e1 e2 e3
      exact ⟨⟨i0, i1, i2, ts⟩, k82_mk w ⟨i0, i1, i2, ts⟩ hle hC⟩
set_option maxRecDepth 100000 in
theorem open_K41 (n : Nat) : ∀ (cs : List Value) (x : DataW H × List MemPlace), DataW.trod enc Tryd.prog w base spare held n 41 cs = some x → ∃ v : S41, k41.K w v cs := by
  induction n using Nat.strongRecOn with
  | ind n ih =>
    intro cs x h
    obtain ⟨xs, m, rfl, _, hl, hlen, hf⟩ := DataW.trod_struct Tryd.underlying41 h
    rw [c41_] at hl
    have hlen5 : xs.length = 5 := hlen
    clear hlen
    match cs, hl, xs, hlen5, hf, h, ih with
    | [u0, u1, u2, u3, u4], _, [y0, y1, y2, y3, y4], _, hf, h, ih =>
      have h0 : DataW.trod enc Tryd.prog w base spare held m 3 (([u0, u1, u2, u3, u4].drop 0).take (Tryd.prog.cellsOf 3)) = some y0 := hf 0 _ rfl
      have h1 : DataW.trod enc Tryd.prog w base spare held m 9 (([u0, u1, u2, u3, u4].drop 1).take (Tryd.prog.cellsOf 9)) = some y1 := hf 1 _ rfl
      have h2 : DataW.trod enc Tryd.prog w base spare held m 9 (([u0, u1, u2, u3, u4].drop 2).take (Tryd.prog.cellsOf 9)) = some y2 := hf 2 _ rfl
      have h3 : DataW.trod enc Tryd.prog w base spare held m 39 (([u0, u1, u2, u3, u4].drop 3).take (Tryd.prog.cellsOf 39)) = some y3 := hf 3 _ rfl
      have h4 : DataW.trod enc Tryd.prog w base spare held m 22 (([u0, u1, u2, u3, u4].drop 4).take (Tryd.prog.cellsOf 22)) = some y4 := hf 4 _ rfl
      rw [c3] at h0
      rw [c9] at h1 h2
      rw [c39] at h3
      rw [c22] at h4
      simp only [List.drop, List.take] at h0 h1 h2 h3 h4
      obtain ⟨i0, e0, _⟩ := open_i Tryd.underlying3 h0
      obtain ⟨i1, e1⟩ := open_s Tryd.underlying9 h1
      obtain ⟨i2, e2⟩ := open_s Tryd.underlying9 h2
      obtain ⟨A, c, ts, e3, hle, hC⟩ := open_row k82 Tryd.underlying39 c82_ h3 (fun m' hm' cs x h => open_K82 m' cs x h)
      obtain ⟨B, d, us, e4, hle4, hC4⟩ := open_row k41 Tryd.underlying22 c41_ h4 (fun m' hm' => ih m' (by omega))
      simp only [List.cons.injEq, and_true] at e0 e1 e2 e3 e4
      subst e0 e1 e2 e3 e4
      exact ⟨⟨i0, i1, i2, ts, us⟩, k41_mk w ⟨i0, i1, i2, ts, us⟩ hle hC hle4 hC4⟩
/-- An argument: claims. -/
theorem open_claims {A : Option Addr} {n c : Nat} {d : DataW H} {p : List MemPlace} (h : DataW.Trod enc Tryd.prog w base spare held 22 (.slice A n c) d p) : ∃ xs : List S41, n = xs.length ∧ xs.length ≤ c ∧ k41.C w A xs.length xs := by
  obtain ⟨m, h⟩ := h
  obtain ⟨A', c', xs, e, hle, hC⟩ := open_row k41 Tryd.underlying22 c41_ h (fun m' _ cs x h => open_K41 m' cs x h)
  have e2 : Value.slice A n c = .slice A' xs.length c' := by simpa [Value.cells] using e
  injection e2 with q1 q2 q3
  subst q1 q3
  exact ⟨xs, q2, hle, hC⟩
/-- An argument: bools. -/
theorem open_bools {A : Option Addr} {n c : Nat} {d : DataW H} {p : List MemPlace} (h : DataW.Trod enc Tryd.prog w base spare held 34 (.slice A n c) d p) : ∃ xs : List Bool, n = xs.length ∧ xs.length ≤ c ∧ kB.C w A xs.length xs := by
  obtain ⟨m, h⟩ := h
  obtain ⟨A', c', xs, e, hle, hC⟩ := open_row kB Tryd.underlying34 c4 h (fun m' _ cs x h => by
    obtain ⟨b, e⟩ := open_b Tryd.underlying4 h
    exact ⟨b, e⟩)
  have e2 : Value.slice A n c = .slice A' xs.length c' := by simpa [Value.cells] using e
  injection e2 with q1 q2 q3
  subst q1 q3
  exact ⟨xs, q2, hle, hC⟩
end
end Go.Proofs.YtbfgoopomfenjaaDoor
namespace Go.Proofs.YtbfgoopomfenjaaDoor
open Go.RowKit Go.Proofs.YtbfgoopomfenjaaDoorW.PrintWords Go.Proofs.YtbfgoopomfenjaaDoorW.PrintLast Go.Proofs.YtbfgoopomfenjaaDoor.PTseitinValues
set_option linter.unusedVariables false
set_option linter.unusedSimpArgs false
attribute [local go_sem] World.cell?_alloc_lt
attribute [local go_sem] run_store_fn

theorem few_facts {l : List S41} {m : Nat} (h : fewOf l m = true) (hm : m ≤ 4096) : (∀ x ∈ l, csize x ≤ m) ∧ (l.map csize).sum ≤ 20 * m := by
  unfold fewOf at h
  rw [Bool.and_eq_true, decide_eq_true_eq, List.all_eq_true] at h
  have h2 : ∀ x ∈ l, csize x ≤ m := fun x hx => by simpa using h.2 x hx
  refine ⟨h2, ?_⟩
  have key : ∀ k : List S41, (∀ x ∈ k, csize x ≤ m) → (k.map csize).sum ≤ k.length * m := by
    intro k
    induction k with
    | nil => intro _; simp
    | cons a k ih =>
      intro hk
      rw [List.map_cons, List.sum_cons, List.length_cons, Nat.add_mul, Nat.one_mul]
      have h1 := hk a (by simp)
      have h2 := ih (fun x hx => hk x (by simp [hx]))
      omega
  exact Nat.le_trans (key l h2) (Nat.mul_le_mul_right _ h.1)

end Go.Proofs.YtbfgoopomfenjaaDoor
namespace Go.Proofs.YtbfgoopomfenjaaDoor
open Go.ChangeShapes Go.WideShapes Go.ChangeAt Go.RowKit Go.Proofs.YtbfgoopomfenjaaDoor.PTseitinValues
set_option linter.unusedVariables false
set_option linter.unusedSimpArgs false

theorem own : ownKnob Tryd.prog.godebug = none := by kernel_rfl
theorem laidOut : laidOutB Tryd.prog = true := by kernel_rfl
theorem gNeeds : Tryd.prog.globalNamed "sequitur/term.needs" = some 0 := by kernel_rfl
abbrev needsLaid {H : Type} : List (String × DataW H) := [("sequitur/term.needs", Rows.laid_sequitur_term_needs)]
/-- The door's own heap meets the condition. -/
theorem door_met (os : Os) (args : Array Value) : laidMetH Tryd.prog needsLaid ((World.doorLaid Tryd.prog 400 os).forCall (fun _ _ => 0) ⟨#[], args, []⟩).memory :=
  laidMetH_of_parts3 (fuel := 14) (laidMet_of_run' 14 (by kernel_rfl) (by kernel_rfl)) (by kernel_rfl) (by kernel_rfl)
theorem tNeeds : (Tryd.prog.globals[0]?).map (·.type) = some 101 := by kernel_rfl
/-- What the condition gives. -/
theorem needs_of {W : World} (h : laidMetH Tryd.prog needsLaid W) : Needs W := by
  rw [MakeChecks.laidMetH_plain _ _ _ (by kernel_rfl)] at h
  obtain ⟨ps, ⟨g0, t0, cs0, f0, p0, q0, hg0, ht0, hv0, hd0, _, _⟩, _, _⟩ := h
  obtain rfl := Option.some.inj (gNeeds.symm.trans hg0)
  obtain rfl := Option.some.inj (tNeeds.symm.trans ht0)
  obtain ⟨xs, m1, rfl, hx1, hlen, hn3, hel⟩ := DataW.trod_array Tryd.underlying101 hd0
  have c101 : Tryd.prog.cellsOf 101 = 9 := by kernel_rfl
  rw [c101] at hlen
  intro j hj
  have h0 := hel j hj
  rw [c3, Nat.mul_one] at h0
  have hc : W.cell? ⟨0, j, none⟩ = cs0[j]? := World.var?_cell hg0 hv0 j
  rw [hc]
  have hxs : xs.map (·.1) = [.lit (.int .i64 0), .lit (.int .i64 0), .lit (.int .i64 0), .lit (.int .i64 8), .lit (.int .i64 0), .lit (.int .i64 2), .lit (.int .i64 2), .lit (.int .i64 1), .lit (.int .i64 1)] := by
    have h9 := congrArg Prod.fst hx1
    simpa [Rows.laid_sequitur_term_needs] using h9.symm
  have hjl : j < xs.length := by rw [hn3]; exact hj
  rw [List.getElem?_eq_getElem hjl] at h0
  obtain ⟨i, e1, e2, _⟩ := DataW.trod_int Tryd.underlying3 h0
  have hx : (xs.map (·.1))[j]? = some (.lit (.int .i64 i)) := by
    rw [List.getElem?_map, List.getElem?_eq_getElem hjl]
    show some xs[j].1 = _
    rw [e2]
  rw [hxs] at hx
  have e3 : i = needOf j := by
    match j, hj with
    | 0, _ | 1, _ | 2, _ | 3, _ | 4, _ | 5, _ | 6, _ | 7, _ | 8, _ => simpa [needOf, eq_comm] using hx
  rw [← e3]
  have h7 := congrArg (·[0]?) e1
  simp only [List.getElem?_take, List.getElem?_drop, Nat.add_zero] at h7
  simpa using h7
abbrev pre_ {H : Type} (spec : ChangeSpec) (f : Func) (enc : TypeId × Value → H) : World → Array Value → Prop := fun w args => (spec.pre enc Tryd.prog f [] false w args ∧ laidMetH Tryd.prog needsLaid w) ∧ sizedMet enc Tryd.prog f (OpenSpec.ofChange spec) false w args
end Go.Proofs.YtbfgoopomfenjaaDoor
