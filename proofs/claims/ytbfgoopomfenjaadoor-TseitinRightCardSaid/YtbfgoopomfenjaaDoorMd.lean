import Derived.Test.YtbfgoopomfenjaaDoorMc
import Derived.Deep.RegionLaw
namespace Go.Proofs.YtbfgoopomfenjaaDoor
open Go.RowKit Go.Proofs.YtbfgoopomfenjaaDoorW.PrintWords Go.Proofs.YtbfgoopomfenjaaDoor.PTseitinValues
set_option linter.unusedVariables false
set_option linter.unusedSimpArgs false
attribute [local go_sem] World.cell?_alloc_lt

/-- Where t lies in l; -1: nowhere. -/
def posn (l : List S41) (t : S41) : Int := if l.any (fun x => same x t) = true then (l.findIdx (fun x => same x t) : Nat) else -1
theorem findIdx_at {l : List S41} {t : S41} {k : Nat} {x : S41} (hx : l[k]? = some x) (hs : same x t = true) (h : (l.take k).any (fun x => same x t) = false) : l.findIdx (fun x => same x t) = k := by
  induction l generalizing k with
  | nil => simp at hx
  | cons a l ih =>
    cases k with
    | zero =>
      have : a = x := by simpa using hx
      subst this
      rw [List.findIdx_cons, hs]; rfl
    | succ k =>
      rw [List.take_succ_cons, List.any_cons, Bool.or_eq_false_iff] at h
      have := ih (by simpa using hx) h.2
      rw [List.findIdx_cons, h.1, this]; rfl
theorem posn_at {l : List S41} {t : S41} {k : Nat} {x : S41} (hx : l[k]? = some x) (hs : same x t = true) (h : (l.take k).any (fun x => same x t) = false) : posn l t = k := by
  unfold posn
  rw [if_pos (List.any_eq_true.2 ⟨x, List.mem_of_getElem? hx, hs⟩), findIdx_at hx hs h]
theorem posn_none {l : List S41} {t : S41} (h : l.any (fun x => same x t) = false) : posn l t = -1 := by unfold posn; rw [h]; rfl

set_option maxHeartbeats 1000000 in
theorem same_clo56 (x t : S41) (A : Option Addr) (c : Nat) (B : Option Addr) (d : Nat) (A' : Option Addr) (c' : Nat) (B' : Option Addr) (d' : Nat) (N : Nat) (w : World) (hP : P41 w x A c B d) (hX : T41 w ⟨N, 0, none⟩ t A' c' B' d') :
    Calls Tryd.prog 56 #[v41 x A c B d, .pointer (some ⟨N, 0, none⟩)] w fun e w' => e = .returned (.bool (same x t)) ∧ Below w.heap.size w w' := by
  have hBW : Below w.heap.size w (w.alloc (.cells (c41 x A c B d) 41)) := below_alloc (Below.refl _ _) _
  have X : T41 (w.alloc (.cells (c41 x A c B d) 41)) ⟨w.heap.size, 0, none⟩ x A c B d := T41.mk_box (w := w) (blk_new _ _) hP hBW
  have Y := hX.below hBW
  have HBW := Aside0.mk hBW
  clear hBW hP hX
  go_enter Tryd.func56, Tryd.ntmps56
  go_upto_region 1 with fail
  generalize hW : w.alloc (.cells (c41 x A c B d) 41) = W0 at *
  clear hW
  obtain ⟨h0, h1, h2, h3, h4, hl0, hln⟩ := X.box
  obtain ⟨g0, g1, g2, g3, g4, gl0, gln⟩ := Y.box
  go_wp2_with (first | (go_at_call 57; refine (claim_same x t A c B d A' c' B' d' _ X.P Y.P).mono ?_; rintro e w1 ⟨rfl, hb⟩; have hb' := Aside0.mk hb; clear hb))
  go_ret
  exact ⟨rfl, below_step HBW.out hb'.out⟩

set_option maxRecDepth 100000 in
set_option maxHeartbeats 2000000 in
theorem index_56 (w0 : World) (l : List S41) (t : S41) (A0 : Option Addr) (c0 : Nat) (A : Option Addr) (c : Nat) (B : Option Addr) (d : Nat) (N : Nat) (W : World) (hB : Below w0.heap.size w0 W) (hL : AT w0 W (.slice A0 l.length c0) l) (hX : T41 W ⟨N, 0, none⟩ t A c B d) (hl : l.length ≤ 1000000) :
    Calls Tryd.prog 58 #[.slice A0 l.length c0, .func (.func 56) #[] #[.pointer (some ⟨N, 0, none⟩)]] W fun e w' => e = .returned (.int .i64 (posn l t)) ∧ Below W.heap.size W w' := by
  have HB := Aside0.mk hB
  have HL := Aside0.mk hL
  have HX := Aside0.mk hX
  clear hB hL hX
  go_enter Tryd.func58, Tryd.ntmps58
  go_wp2_with fail
  go_loopw [5, 8] (fun _ i wr => ∃ k : Nat, k ≤ l.length ∧ i = .int .i64 k ∧ Aside0 ((l.take k).any (fun x => same x t) = false) ∧ Aside0 (Below W.heap.size W wr)) (fun _ i _ => l.length - (intOf i).toNat)
  case atStart => exact ⟨0, Nat.zero_le _, rfl, ⟨rfl⟩, ⟨Below.refl _ _⟩⟩
  case round =>
    obtain ⟨k, hk, rfl, HN, HBr⟩ := hrel
    have HL1 := Aside0.mk (HL.out.upd (Upd.of_below (E := fun _ => False) HBr.out) (fun _ _ h => h))
    have HB2 := Aside0.mk (HB.out.trans (HBr.out.mono HB.out.size))
    have HX1 := Aside0.mk (HX.out.below HBr.out)
    by_cases hlt : k < l.length
    · have hltb : decide (k < l.length) = true := decide_eq_true hlt
      obtain ⟨x, ad, A3, c3, B3, d3, hx, rfl, Z, hPx⟩ := HL1.out.get HB2.out k hlt
      obtain ⟨z0, z1, z2, z3, z4, zl0, zln⟩ := Z.cells
      have HZ := Aside0.mk Z.P
      by_cases hsm : same x t = true
      · have HR := Aside0.mk (posn_at hx hsm HN.out)
        clear hx
        go_wp2_with (first | (go_at_call 56; refine (same_clo56 x t A3 c3 B3 d3 A c B d N _ HZ.out HX1.out).mono ?_; rintro e w1 ⟨rfl, hb⟩; have hb' := Aside0.mk hb; clear hb; rw [hsm]))
        go_ret
        exact ⟨by rw [HR.out]; rfl, below_step HBr.out hb'.out⟩
      · have hsm : same x t = false := by simpa using hsm
        have HN2 : Aside0 ((l.take (k + 1)).any (fun x => same x t) = false) := ⟨by rw [take_snoc hx, List.any_append, HN.out]; simp [hsm]⟩
        clear hx
        go_wp2_with (first | (go_at_call 56; refine (same_clo56 x t A3 c3 B3 d3 A c B d N _ HZ.out HX1.out).mono ?_; rintro e w1 ⟨rfl, hb⟩; have hb' := Aside0.mk (below_step HBr.out hb); clear hb; rw [hsm]))
        refine ⟨⟨k + 1, by omega, by go_num, HN2, hb'⟩, ?_⟩
        simp [intOf]; omega
    · have hltb : decide (k < l.length) = false := decide_eq_false hlt
      have HR : Aside0 (posn l t = -1) := ⟨posn_none (by
        have h1 := HN.out
        rwa [show k = l.length by omega, List.take_length] at h1)⟩
      go_wp2_with fail
      go_ret
      exact ⟨by rw [HR.out]; rfl, HBr.out⟩

set_option maxHeartbeats 1000000 in
theorem same_clo59 (x t : S41) (A : Option Addr) (c : Nat) (B : Option Addr) (d : Nat) (A' : Option Addr) (c' : Nat) (B' : Option Addr) (d' : Nat) (N : Nat) (w : World) (hP : P41 w x A c B d) (hX : T41 w ⟨N, 0, none⟩ t A' c' B' d') :
    Calls Tryd.prog 59 #[v41 x A c B d, .pointer (some ⟨N, 0, none⟩)] w fun e w' => e = .returned (.bool (same x t)) ∧ Below w.heap.size w w' := by
  have hBW : Below w.heap.size w (w.alloc (.cells (c41 x A c B d) 41)) := below_alloc (Below.refl _ _) _
  have X : T41 (w.alloc (.cells (c41 x A c B d) 41)) ⟨w.heap.size, 0, none⟩ x A c B d := T41.mk_box (w := w) (blk_new _ _) hP hBW
  have Y := hX.below hBW
  have HBW := Aside0.mk hBW
  clear hBW hP hX
  go_enter Tryd.func59, Tryd.ntmps59
  go_upto_region 1 with fail
  generalize hW : w.alloc (.cells (c41 x A c B d) 41) = W0 at *
  clear hW
  obtain ⟨h0, h1, h2, h3, h4, hl0, hln⟩ := X.box
  obtain ⟨g0, g1, g2, g3, g4, gl0, gln⟩ := Y.box
  go_wp2_with (first | (go_at_call 57; refine (claim_same x t A c B d A' c' B' d' _ X.P Y.P).mono ?_; rintro e w1 ⟨rfl, hb⟩; have hb' := Aside0.mk hb; clear hb))
  go_ret
  exact ⟨rfl, below_step HBW.out hb'.out⟩

set_option maxRecDepth 100000 in
set_option maxHeartbeats 2000000 in
theorem index_59 (w0 : World) (l : List S41) (t : S41) (A0 : Option Addr) (c0 : Nat) (A : Option Addr) (c : Nat) (B : Option Addr) (d : Nat) (N : Nat) (W : World) (hB : Below w0.heap.size w0 W) (hL : AT w0 W (.slice A0 l.length c0) l) (hX : T41 W ⟨N, 0, none⟩ t A c B d) (hl : l.length ≤ 1000000) :
    Calls Tryd.prog 58 #[.slice A0 l.length c0, .func (.func 59) #[] #[.pointer (some ⟨N, 0, none⟩)]] W fun e w' => e = .returned (.int .i64 (posn l t)) ∧ Below W.heap.size W w' := by
  have HB := Aside0.mk hB
  have HL := Aside0.mk hL
  have HX := Aside0.mk hX
  clear hB hL hX
  go_enter Tryd.func58, Tryd.ntmps58
  go_wp2_with fail
  go_loopw [5, 8] (fun _ i wr => ∃ k : Nat, k ≤ l.length ∧ i = .int .i64 k ∧ Aside0 ((l.take k).any (fun x => same x t) = false) ∧ Aside0 (Below W.heap.size W wr)) (fun _ i _ => l.length - (intOf i).toNat)
  case atStart => exact ⟨0, Nat.zero_le _, rfl, ⟨rfl⟩, ⟨Below.refl _ _⟩⟩
  case round =>
    obtain ⟨k, hk, rfl, HN, HBr⟩ := hrel
    have HL1 := Aside0.mk (HL.out.upd (Upd.of_below (E := fun _ => False) HBr.out) (fun _ _ h => h))
    have HB2 := Aside0.mk (HB.out.trans (HBr.out.mono HB.out.size))
    have HX1 := Aside0.mk (HX.out.below HBr.out)
    by_cases hlt : k < l.length
    · have hltb : decide (k < l.length) = true := decide_eq_true hlt
      obtain ⟨x, ad, A3, c3, B3, d3, hx, rfl, Z, hPx⟩ := HL1.out.get HB2.out k hlt
      obtain ⟨z0, z1, z2, z3, z4, zl0, zln⟩ := Z.cells
      have HZ := Aside0.mk Z.P
      by_cases hsm : same x t = true
      · have HR := Aside0.mk (posn_at hx hsm HN.out)
        clear hx
        go_wp2_with (first | (go_at_call 59; refine (same_clo59 x t A3 c3 B3 d3 A c B d N _ HZ.out HX1.out).mono ?_; rintro e w1 ⟨rfl, hb⟩; have hb' := Aside0.mk hb; clear hb; rw [hsm]))
        go_ret
        exact ⟨by rw [HR.out]; rfl, below_step HBr.out hb'.out⟩
      · have hsm : same x t = false := by simpa using hsm
        have HN2 : Aside0 ((l.take (k + 1)).any (fun x => same x t) = false) := ⟨by rw [take_snoc hx, List.any_append, HN.out]; simp [hsm]⟩
        clear hx
        go_wp2_with (first | (go_at_call 59; refine (same_clo59 x t A3 c3 B3 d3 A c B d N _ HZ.out HX1.out).mono ?_; rintro e w1 ⟨rfl, hb⟩; have hb' := Aside0.mk (below_step HBr.out hb); clear hb; rw [hsm]))
        refine ⟨⟨k + 1, by omega, by go_num, HN2, hb'⟩, ?_⟩
        simp [intOf]; omega
    · have hltb : decide (k < l.length) = false := decide_eq_false hlt
      have HR : Aside0 (posn l t = -1) := ⟨posn_none (by
        have h1 := HN.out
        rwa [show k = l.length by omega, List.take_length] at h1)⟩
      go_wp2_with fail
      go_ret
      exact ⟨by rw [HR.out]; rfl, HBr.out⟩

theorem posn_nonneg (l : List S41) (t : S41) : decide (0 ≤ posn l t) = l.any (fun x => same x t) := by
  unfold posn
  by_cases h : l.any (fun x => same x t) = true
  · rw [if_pos h, h]; exact decide_eq_true (by omega)
  · rw [if_neg h]
    have : l.any (fun x => same x t) = false := by simpa using h
    rw [this]; rfl

set_option maxHeartbeats 1000000 in
theorem contains_56 (w0 : World) (l : List S41) (t : S41) (A0 : Option Addr) (c0 : Nat) (A : Option Addr) (c : Nat) (B : Option Addr) (d : Nat) (N : Nat) (W : World) (hB : Below w0.heap.size w0 W) (hL : AT w0 W (.slice A0 l.length c0) l) (hX : T41 W ⟨N, 0, none⟩ t A c B d) (hl : l.length ≤ 1000000) :
    Calls Tryd.prog 55 #[.slice A0 l.length c0, .func (.func 56) #[] #[.pointer (some ⟨N, 0, none⟩)]] W fun e w' => e = .returned (.bool (l.any (fun x => same x t))) ∧ Below W.heap.size W w' := by
  have HP := Aside0.mk (posn_nonneg l t)
  go_enter Tryd.func55, Tryd.ntmps55
  go_wp2_with (first | (go_at_call 58; refine (index_56 w0 l t A0 c0 A c B d N _ hB hL hX hl).mono ?_; rintro e w1 ⟨rfl, hb⟩; have hb' := Aside0.mk hb; clear hb))
  go_ret
  exact ⟨by rw [← HP.out]; rfl, hb'.out⟩

set_option maxHeartbeats 1000000 in
/-- tseitin.place's contract. -/
theorem ts_place (w0 : World) (l : List S41) (t : S41) (A0 : Option Addr) (c0 : Nat) (A : Option Addr) (c : Nat) (B : Option Addr) (d : Nat) (W : World) (hB : Below w0.heap.size w0 W) (hL : AT w0 W (.slice A0 l.length c0) l) (hP : P41 W t A c B d) (hl : l.length ≤ 1000000) :
    Calls Tryd.prog 31 #[.slice A0 l.length c0, v41 t A c B d] W fun e w' => e = .returned (.int .i64 (posn l t)) ∧ Below W.heap.size W w' := by
  have hmf : ∀ fn first cap w, (Instr.makeFunc fn first cap).run Tryd.prog w = .ok (.func fn first cap) w := fun _ _ _ _ => rfl
  have hBW : Below W.heap.size W (W.alloc (.cells (c41 t A c B d) 41)) := below_alloc (Below.refl _ _) _
  have X : T41 (W.alloc (.cells (c41 t A c B d) 41)) ⟨W.heap.size, 0, none⟩ t A c B d := T41.mk_box (w := W) (blk_new _ _) hP hBW
  have HL := Aside0.mk (hL.upd (Upd.of_below (E := fun _ => False) hBW) (fun _ _ h => h))
  have HB := Aside0.mk (hB.trans (hBW.mono hB.size))
  have HBW := Aside0.mk hBW
  have HX := Aside0.mk X
  clear hBW hP hB hL X
  go_enter Tryd.func31, Tryd.ntmps31
  go_wp2_with (first | (go_at_call 58; refine (index_59 w0 l t A0 c0 A c B d _ _ HB.out HL.out HX.out hl).mono ?_; rintro e w1 ⟨rfl, hb⟩; have hb' := Aside0.mk hb; clear hb))
  go_ret
  exact ⟨rfl, below_step HBW.out hb'.out⟩
end Go.Proofs.YtbfgoopomfenjaaDoor
namespace Go.Proofs.YtbfgoopomfenjaaDoor
open Go.RowKit Go.Proofs.YtbfgoopomfenjaaDoorW.PrintWords Go.Proofs.YtbfgoopomfenjaaDoor.PTseitinValues
set_option linter.unusedVariables false
set_option linter.unusedSimpArgs false
attribute [local go_sem] World.cell?_alloc_lt
attribute [local go_sem] run_store_fn

abbrev EvB (b : Nat) (v : Value) : Nat → Prop := fun i => i = b ∨ v.ownBlock = some i
theorem Upd.ownB {b : Nat} {v v1 : Value} {A B C : World} (h : Upd (EvB b v) A B) (hs : OwnStep A.heap.size v v1) (k : Upd (EvB b v1) B C) : Upd (EvB b v) A C :=
  ⟨k.os.trans h.os, k.tape.trans h.tape, k.output.trans h.output, Nat.le_trans h.size k.size, fun i hi he => (k.block i (Nat.lt_of_lt_of_le hi h.size) (fun e => by
    rcases e with e | e
    · exact he (.inl e)
    · rcases hs with hs | ⟨b', hb, hle⟩
      · exact he (.inr (hs.symm.trans e))
      · have : b' = i := by rw [e] at hb; injection hb with hb; exact hb.symm
        omega)).trans (h.block i hi he)⟩

theorem P41_z (w : World) : P41 w z41 none 0 none 0 := ⟨Nat.le_refl _, ⟨rfl, by decide, fun h => absurd h (by decide)⟩, Nat.le_refl _, ⟨rfl, by decide, fun h => absurd h (by decide)⟩⟩
/-- The last element is written anew. -/
theorem AT.put_last {w0 W : World} {g cap : Nat} {l : List S41} {x t : S41} {cs : List Value} (h : AT w0 W (.slice (some ⟨g, 0, none⟩) (l.length + 1) cap) (l ++ [x])) (hc : RC w0 t cs) : AT w0 (W.setCells g (l.length * 5) cs) (.slice (some ⟨g, 0, none⟩) (l.length + 1) cap) (l ++ [t]) := by
  obtain ⟨inner, ho, hr⟩ := h
  obtain ⟨A, c, B, d, rfl, hP⟩ := hc
  obtain ⟨h1, h2⟩ := ho
  rcases h2 with ⟨he, _⟩ | ⟨g', cap', cur, he, hb, hh, hn, hm, hs, ht⟩
  · cases he
  · injection he with e1 e2 e3
    injection e1 with e1
    injection e1 with e1
    subst e1 e3
    have hlen : (l ++ [x]).length = l.length + 1 := by simp
    rw [hlen] at h1 hn ht
    obtain ⟨cur', k1, k2, k3⟩ := setCells_row (e := 41) [.int .i64 t.f0, .string t.f1, .string t.f2, .slice A t.f3.length c, .slice B t.f4.length d] (l.length * 5) W cur hh (by simp; omega)
    have hcl : cur.toList.length = cap * 5 := by rw [Array.length_toList]; exact hs
    have htk : cur'.toList.take ((l.length + 1) * 5) = inner.take (l.length * 5) ++ [.int .i64 t.f0, .string t.f1, .string t.f2, .slice A t.f3.length c, .slice B t.f4.length d] := by
      rw [k3, ← ht, List.take_take, Nat.min_eq_left (by omega)]
      rw [List.take_append_of_le_length (by simp; omega)]
      rw [List.take_of_length_le (by simp; omega)]
    refine ⟨inner.take (l.length * 5) ++ [.int .i64 t.f0, .string t.f1, .string t.f2, .slice A t.f3.length c, .slice B t.f4.length d], ⟨?_, .inr ⟨g, cap, cur', ?_, hb, k1, ?_, hm, k2.trans hs, ?_⟩⟩, ?_⟩
    · simp [h1]; omega
    · simp
    · simp; omega
    · rw [List.length_append, List.length_singleton]; exact htk
    · refine Reps.snoc ⟨?_, fun j p hj => ?_⟩ ⟨A, c, B, d, rfl, hP⟩ rfl
      · rw [List.length_take, h1]; omega
      · have hjl : j < l.length := (List.getElem?_eq_some_iff.1 hj).1
        have := hr.2 j p (by rw [List.getElem?_append_left hjl]; exact hj)
        have e : ((inner.take (l.length * 5)).drop (j * 5)).take 5 = (inner.drop (j * 5)).take 5 := by
          rw [List.drop_take, List.take_take, Nat.min_eq_left (by omega)]
        rw [e]; exact this

theorem AT.form {w0 W : World} {v : Value} {l : List S41} {x : S41} (h : AT w0 W v (l ++ [x])) : ∃ g cap, v = .slice (some ⟨g, 0, none⟩) (l.length + 1) cap ∧ g < W.heap.size ∧ ∀ j, j < 5 → (∃ u, W.cell? ⟨g, l.length * 5 + j, none⟩ = some u) ∧ W.frozen? ⟨g, l.length * 5 + j, none⟩ = false := by
  obtain ⟨inner, ⟨h1, h2⟩, hr⟩ := h
  rw [List.length_append, List.length_singleton] at h1 h2
  rcases h2 with ⟨he, h0⟩ | ⟨g, cap, cur, he, hb, hh, hn, hm, hs, ht⟩
  · omega
  · refine ⟨g, cap, he, (Array.getElem?_eq_some_iff.1 hh).1, fun j hj => ⟨⟨cur[l.length * 5 + j]'(by omega), ?_⟩, ?_⟩⟩
    · simp [World.cell?, hh]
    · simp [World.frozen?, hh]
def AtomsDo (w0 : World) (bO : Nat) (l' : List S41) (v : Value) (W : World) (e : Ending) (W' : World) : Prop :=
  e = .returned (.tuple #[]) ∧ ∃ A1 c1, Boxed W' bO 22 (.slice A1 l'.length c1) ∧ AT w0 W' (.slice A1 l'.length c1) l' ∧ Upd (EvB bO v) W W' ∧ OwnStep W.heap.size v (.slice A1 l'.length c1)
def PAT (w0 : World) (bF bO : Nat) (t : S41) : Prop := ∀ (A : Option Addr) (c : Nat) (B : Option Addr) (d : Nat) (A0 : Option Addr) (c0 : Nat) (l : List S41) (W : World), P41 w0 t A c B d → Below w0.heap.size w0 W → AT w0 W (.slice A0 l.length c0) l → l.length + csize t ≤ 1000000 →
  Boxed W bF 74 (.func (.func 54) #[] #[.pointer (some ⟨bF, 0, none⟩), .pointer (some ⟨bO, 0, none⟩)]) → Boxed W bO 22 (.slice A0 l.length c0) → w0.heap.size ≤ bO →
  Calls Tryd.prog 54 #[v41 t A c B d, .pointer (some ⟨bF, 0, none⟩), .pointer (some ⟨bO, 0, none⟩)] W (AtomsDo w0 bO (atomsC t l) (.slice A0 l.length c0) W)

theorem leaf_end {w0 W w1 w2 : World} {bO g cap : Nat} {A0 : Option Addr} {c0 : Nat} {l : List S41} {t : S41} {A : Option Addr} {c : Nat} {B : Option Addr} {d : Nat} (hb : Below W.heap.size W w1) (hO : Boxed w2 bO 22 (.slice A0 l.length c0))
    (h : AT w0 w2 (.slice (some ⟨g, 0, none⟩) (l.length + 1) cap) (l ++ [z41])) (hg : w1.drew.grownBy w2 (Value.slice A0 l.length c0).ownBlock)
    (hat : (Value.slice (some ⟨g, 0, none⟩) (l.length + 1) cap).ownBlock = (Value.slice A0 l.length c0).ownBlock ∨ ∃ b, (Value.slice (some ⟨g, 0, none⟩) (l.length + 1) cap).ownBlock = some b ∧ w1.drew.heap.size ≤ b) (hP : P41 w0 t A c B d) (hgb : g ≠ bO) :
    AtomsDo w0 bO (l ++ [t]) (.slice A0 l.length c0) W (.returned (.tuple #[])) ((((((w2.setCell ⟨g, l.length * 5, none⟩ (.int .i64 t.f0)).setCell ⟨g, l.length * 5 + 1, none⟩ (.string t.f1)).setCell ⟨g, l.length * 5 + 2, none⟩ (.string t.f2)).setCell ⟨g, l.length * 5 + 3, none⟩ (.slice A t.f3.length c)).setCell ⟨g, l.length * 5 + 4, none⟩ (.slice B t.f4.length d)).setCell ⟨bO, 0, none⟩ (.slice (some ⟨g, 0, none⟩) (l.length + 1) cap)) := by
  have hch : (((((w2.setCell ⟨g, l.length * 5, none⟩ (.int .i64 t.f0)).setCell ⟨g, l.length * 5 + 1, none⟩ (.string t.f1)).setCell ⟨g, l.length * 5 + 2, none⟩ (.string t.f2)).setCell ⟨g, l.length * 5 + 3, none⟩ (.slice A t.f3.length c)).setCell ⟨g, l.length * 5 + 4, none⟩ (.slice B t.f4.length d)) = w2.setCells g (l.length * 5) [.int .i64 t.f0, .string t.f1, .string t.f2, .slice A t.f3.length c, .slice B t.f4.length d] := by simp only [World.setCells, Nat.add_assoc, Nat.reduceAdd]
  rw [hch]
  have hlen : (l ++ [t]).length = l.length + 1 := by simp
  have k := AT.put_last (t := t) h ⟨A, c, B, d, rfl, hP⟩
  have hfar : ∀ j, j ≠ g → (w2.setCells g (l.length * 5) [.int .i64 t.f0, .string t.f1, .string t.f2, .slice A t.f3.length c, .slice B t.f4.length d]).heap[j]? = w2.heap[j]? := fun j hj => setCells_far _ _ j hj
  obtain ⟨s1, s2, s3, s4⟩ := setCells_same g [.int .i64 t.f0, .string t.f1, .string t.f2, .slice A t.f3.length c, .slice B t.f4.length d] (l.length * 5) w2
  generalize w2.setCells g (l.length * 5) [.int .i64 t.f0, .string t.f1, .string t.f2, .slice A t.f3.length c, .slice B t.f4.length d] = W3 at *
  have hO2 : Boxed W3 bO 22 (.slice A0 l.length c0) := (hfar bO (Ne.symm hgb)).trans hO
  have h1 : Upd (EvB bO (.slice A0 l.length c0)) W w2 := (((Upd.of_below hb).drew).grown hg (fun r e _ => .inr e))
  have h3 : w1.drew.heap.size = w1.heap.size := rfl
  have h4 : Upd (EvB bO (.slice A0 l.length c0)) W W3 := ⟨s1.trans h1.os, s2.trans h1.tape, s3.trans h1.output, by rw [s4]; exact h1.size, fun i hi he => by
    have hne : i ≠ g := by
      rintro rfl
      rcases hat with hat | ⟨b, hb2, hle⟩
      · exact he (.inr hat.symm)
      · have : i = b := by simpa [Value.ownBlock] using hb2
        have := hb.size
        omega
    exact (hfar i hne).trans (h1.block i hi he)⟩
  refine ⟨rfl, some ⟨g, 0, none⟩, cap, ?_, ?_, ?_, ?_⟩
  · rw [hlen]; exact hO2.set _
  · rw [hlen]; exact OwnRow.set_ k hO2 (by decide) 0 _
  · exact h4.setCell (p := ⟨bO, 0, none⟩) (.inl rfl) _
  · rcases hat with hat | ⟨b, hb2, hle⟩
    · exact .inl (by rw [hlen]; exact hat)
    · exact .inr ⟨b, by rw [hlen]; exact hb2, Nat.le_trans hb.size (by omega)⟩

theorem setCell_comm (w : World) (p q : Addr) (u v : Value) (h : p.block ≠ q.block) : (w.setCell p u).setCell q v = (w.setCell q v).setCell p u := by
  unfold World.setCell
  congr 1
  apply Array.ext_getElem?
  intro i
  simp only [Array.getElem?_modify]
  by_cases h1 : p.block = i
  · by_cases h2 : q.block = i
    · omega
    · rw [if_neg h2, if_pos h1, if_pos h1, if_neg h2]
  · by_cases h2 : q.block = i
    · rw [if_pos h2, if_neg h1, if_neg h1, if_pos h2]
    · rw [if_neg h2, if_neg h1, if_neg h1, if_neg h2]
theorem leaf_end2 {w0 W w1 w2 : World} {bO g cap : Nat} {A0 : Option Addr} {c0 : Nat} {l : List S41} {t : S41} {A : Option Addr} {c : Nat} {B : Option Addr} {d : Nat} (hb : Below W.heap.size W w1) (hO : Boxed w2 bO 22 (.slice A0 l.length c0))
    (h : AT w0 w2 (.slice (some ⟨g, 0, none⟩) (l.length + 1) cap) (l ++ [z41])) (hg : w1.drew.grownBy w2 (Value.slice A0 l.length c0).ownBlock)
    (hat : (Value.slice (some ⟨g, 0, none⟩) (l.length + 1) cap).ownBlock = (Value.slice A0 l.length c0).ownBlock ∨ ∃ b, (Value.slice (some ⟨g, 0, none⟩) (l.length + 1) cap).ownBlock = some b ∧ w1.drew.heap.size ≤ b) (hP : P41 w0 t A c B d) (hgb : g ≠ bO) :
    AtomsDo w0 bO (l ++ [t]) (.slice A0 l.length c0) W (.returned (.tuple #[])) ((((((w2.setCell ⟨bO, 0, none⟩ (.slice (some ⟨g, 0, none⟩) (l.length + 1) cap)).setCell ⟨g, l.length * 5, none⟩ (.int .i64 t.f0)).setCell ⟨g, l.length * 5 + 1, none⟩ (.string t.f1)).setCell ⟨g, l.length * 5 + 2, none⟩ (.string t.f2)).setCell ⟨g, l.length * 5 + 3, none⟩ (.slice A t.f3.length c)).setCell ⟨g, l.length * 5 + 4, none⟩ (.slice B t.f4.length d)) := by
  have k := leaf_end hb hO h hg hat hP hgb
  have hne : ∀ j j' : Nat, (⟨bO, j, none⟩ : Addr).block ≠ (⟨g, j', none⟩ : Addr).block := fun _ _ e => hgb e.symm
  rw [setCell_comm w2 ⟨bO, 0, none⟩ ⟨g, l.length * 5, none⟩ _ _ (hne _ _), setCell_comm _ ⟨bO, 0, none⟩ ⟨g, l.length * 5 + 1, none⟩ _ _ (hne _ _), setCell_comm _ ⟨bO, 0, none⟩ ⟨g, l.length * 5 + 2, none⟩ _ _ (hne _ _), setCell_comm _ ⟨bO, 0, none⟩ ⟨g, l.length * 5 + 3, none⟩ _ _ (hne _ _), setCell_comm _ ⟨bO, 0, none⟩ ⟨g, l.length * 5 + 4, none⟩ _ _ (hne _ _)]
  exact k

set_option maxRecDepth 100000 in
set_option maxHeartbeats 4000000 in
theorem patoms_leaf (w0 : World) (bF bO : Nat) (t : S41) (h0 : ¬ (t.f0 = 1 ∨ t.f0 = 2)) (h1 : ¬ (6 ≤ t.f0 ∧ t.f0 ≤ 10)) : PAT w0 bF bO t := by
  intro A c B d A0 c0 l W hP hB hL hs hF hO hw
  have hE : atomsC t l = if l.any (fun x => same x t) = true then l else l ++ [t] := by rw [atomsC_eq, if_neg h0, if_neg h1]
  have HE := Aside0.mk hE
  have q1 : (t.f0 == 1) = false := by simp; omega
  have q2 : (t.f0 == 2) = false := by simp; omega
  have q6 : (t.f0 == 6) = false := by simp; omega
  have q7 : (t.f0 == 7) = false := by simp; omega
  have q8 : (t.f0 == 8) = false := by simp; omega
  have q9 : (t.f0 == 9) = false := by simp; omega
  have q10 : (t.f0 == 10) = false := by simp; omega
  have hla : l.length ≤ 1000000 := by omega
  have HS := Aside0.mk hs
  have HP := Aside0.mk hP
  have HB := Aside0.mk hB
  have HL := Aside0.mk hL
  have HF := Aside0.mk hF
  have HO := Aside0.mk hO
  have hmf : ∀ fn first cap w, (Instr.makeFunc fn first cap).run Tryd.prog w = .ok (.func fn first cap) w := fun _ _ _ _ => rfl
  have hBW : Below W.heap.size W (W.alloc (.cells (c41 t A c B d) 41)) := below_alloc (Below.refl _ _) _
  have X : T41 (W.alloc (.cells (c41 t A c B d) 41)) ⟨W.heap.size, 0, none⟩ t A c B d := T41.mk_box (w := W) (blk_new _ _) (hP.below hB) hBW
  have HBW := Aside0.mk hBW
  have HO0 := Aside0.mk (hO.alloc (.cells (c41 t A c B d) 41))
  have HB0 := Aside0.mk (hB.trans (hBW.mono hB.size))
  have HL0 := Aside0.mk (hL.upd (Upd.of_below (E := fun _ => False) hBW) (fun _ _ h => h))
  clear hBW hP hB hL hs hE h0 h1 hF hO
  go_enter Tryd.func54, Tryd.ntmps54
  go_upto_region 1 with fail
  generalize hW : W.alloc (.cells (c41 t A c B d) 41) = W0 at *
  clear hW
  obtain ⟨h0, h1, h2, h3, h4, hl0, hln⟩ := X.box
  have o0 := HO0.out.cell
  by_cases hany : l.any (fun x => same x t) = true
  · have HR := Aside0.mk (HE.out.trans (if_pos hany))
    go_wp2_with (first | (go_at_call 55; refine (contains_56 w0 l t A0 c0 A c B d _ _ HB0.out HL0.out X hla).mono ?_; rintro e w1 ⟨rfl, hb⟩; have hb' := Aside0.mk hb; clear hb; rw [hany]))
    go_end0
    rw [HR.out]
    exact ⟨rfl, A0, c0, HO0.out.kept (grown_of_below hb'.out none) (by simp), HL0.out.upd (Upd.of_below (E := fun _ => False) hb'.out) (fun _ _ h => h), Upd.of_below (below_step HBW.out hb'.out), .inl rfl⟩
  · have HR := Aside0.mk (HE.out.trans (if_neg hany))
    have hany : l.any (fun x => same x t) = false := by simpa using hany
    go_wp2_with (first | (go_at_call 55; refine (contains_56 w0 l t A0 c0 A c B d _ _ HB0.out HL0.out X hla).mono ?_; rintro e w1 ⟨rfl, hb⟩; have X1 := X.below hb; have HO1 := Aside0.mk (HO0.out.kept (grown_of_below hb none) (by simp)); have HL1 := Aside0.mk (HL0.out.upd (Upd.of_below (E := fun _ => False) hb) (fun _ _ h => h)); have HB1 := Aside0.mk (HB0.out.trans (hb.mono HB0.out.size)); have HBW1 := Aside0.mk (below_step HBW.out hb); clear hb; rw [hany]))
    obtain ⟨k0, k1, k2, k3, k4, kl0, kln⟩ := X1.box
    have p0 := HO1.out.cell
    clear h0 h1 h2 h3 h4 hl0 hln o0
    have hbo : bO < w1.heap.size := HO1.out.lt
    have hbon : ∀ q, bO < w1.heap.size + q := fun q => by omega
    have HZ : Aside0 (RC w0 z41 [.int .i64 0, .string ⟨#[]⟩, .string ⟨#[]⟩, .slice none 0 0, .slice none 0 0]) := ⟨none, 0, none, 0, rfl, P41_z _⟩
    have hix : (l.length : Int) < (l.length : Int) + 1 := by omega
    go_region_law (refine OwnRow.append_step (w0 := w0) (R := RC w0) w0.heap.size (by rfl) (.tmp 12) (.tmp 15) 22 41 (.agg #[(.int .i64 0), (.string ⟨#[]⟩), (.string ⟨#[]⟩), (.slice none 0 0), (.slice none 0 0)]) 5 88 rfl Tryd.underlying22 info41 rfl (by omega) (by omega) (.slice A0 l.length c0) l z41 [.int .i64 0, .string ⟨#[]⟩, .string ⟨#[]⟩, .slice none 0 0, .slice none 0 0] rfl rfl HZ.out rfl (by simp [Value.oneCell']) (HL1.out.below (Below.refl _ _).drew) HB1.out.drew HB1.out.size (by omega) ?_; intro v1 w2 ho1 hb1 hg1 hat1; obtain ⟨g, cap, hv, hgl, hgc⟩ := AT.form ho1; subst hv; have hgn : ∀ q, g < w2.heap.size + q := (fun q => by omega); obtain ⟨⟨u0, c0_⟩, f0_⟩ := hgc 0 (by omega); obtain ⟨⟨u1, c1_⟩, f1_⟩ := hgc 1 (by omega); obtain ⟨⟨u2, c2_⟩, f2_⟩ := hgc 2 (by omega); obtain ⟨⟨u3, c3_⟩, f3_⟩ := hgc 3 (by omega); obtain ⟨⟨u4, c4_⟩, f4_⟩ := hgc 4 (by omega); rw [Nat.add_zero] at c0_ f0_; have HO2 := Aside0.mk ((HO1.out.kept (grown_of_below (Below.refl _ _).drew none) (by simp)).kept hg1 (OwnRow.ne_block HL1.out HO1.out (by decide))); have hgb : g ≠ bO := (fun e => OwnRow.ne_block ho1 HO2.out (by decide) (by rw [e]; rfl)); have hgb2 := Ne.symm hgb; have n2 := HO2.out.cell; have m2 := HO2.out.frozen; clear hgc; have HG1 := Aside0.mk hg1; have HT1 := Aside0.mk hat1; have HV1 := Aside0.mk (show AT w0 w2 (.slice (some ⟨g, 0, none⟩) (l.length + 1) cap) (l ++ [z41]) from ho1); have HW2 := Aside0.mk hb1; clear ho1 hb1 hg1 hat1)
    all_goals go_wp2_with fail
    all_goals go_end0
    all_goals rw [HR.out]
    all_goals (with_reducible first | exact leaf_end HBW1.out HO2.out HV1.out HG1.out HT1.out HP.out hgb | exact leaf_end2 HBW1.out HO2.out HV1.out HG1.out HT1.out HP.out hgb)
end Go.Proofs.YtbfgoopomfenjaaDoor
namespace Go.Proofs.YtbfgoopomfenjaaDoor
open Go.RowKit Go.Proofs.YtbfgoopomfenjaaDoorW.PrintWords Go.Proofs.YtbfgoopomfenjaaDoor.PTseitinValues
set_option linter.unusedVariables false
set_option linter.unusedSimpArgs false
attribute [local go_sem] World.cell?_alloc_lt
attribute [local go_sem] run_store_fn


theorem AtomsDo.self {w0 W W' : World} {bO : Nat} {l : List S41} {A0 : Option Addr} {c0 : Nat} (h : AT w0 W (.slice A0 l.length c0) l) (hO : Boxed W bO 22 (.slice A0 l.length c0)) (hb : Below W.heap.size W W') : AtomsDo w0 bO l (.slice A0 l.length c0) W (.returned (.tuple #[])) W' :=
  ⟨rfl, A0, c0, hO.kept (grown_of_below hb none) (by simp), h.upd (Upd.of_below (E := fun _ => False) hb) (fun _ _ h => h), Upd.of_below hb, .inl rfl⟩

set_option maxHeartbeats 1000000 in
theorem patoms_flat (w0 : World) (bF bO : Nat) (t : S41) (h0 : t.f0 = 1 ∨ t.f0 = 2) : PAT w0 bF bO t := by
  intro A c B d A0 c0 l W hP hB hL hs hF hO hw
  have HR := Aside0.mk (show atomsC t l = l by rw [atomsC_eq, if_pos h0])
  have HBW := Aside0.mk (show Below W.heap.size W (W.alloc (.cells (c41 t A c B d) 41)) from below_alloc (Below.refl _ _) _)
  have HL := Aside0.mk hL
  have HO := Aside0.mk hO
  clear hP hB hL hs hF hO
  rcases h0 with h | h
  · have q1 : (t.f0 == 1) = true := by simpa using h
    clear h
    go_enter Tryd.func54, Tryd.ntmps54
    go_wp2
    go_end0
    rw [HR.out]
    exact AtomsDo.self HL.out HO.out HBW.out
  · have q1 : (t.f0 == 1) = false := by simp; omega
    have q2 : (t.f0 == 2) = true := by simpa using h
    clear h
    go_enter Tryd.func54, Tryd.ntmps54
    go_wp2
    go_end0
    rw [HR.out]
    exact AtomsDo.self HL.out HO.out HBW.out

def AtRelB (us l : List S41) (w0 W0 : World) (bO : Nat) (v0 i : Value) (wr : World) : Prop :=
  ∃ k A1 c1, k ≤ us.length ∧ i = .int .i64 (k : Nat) ∧ Aside0 (Boxed wr bO 22 (.slice A1 (atomsL (us.take k) l).length c1)) ∧ Aside0 (AT w0 wr (.slice A1 (atomsL (us.take k) l).length c1) (atomsL (us.take k) l)) ∧ Aside0 (Upd (EvB bO v0) W0 wr) ∧ Aside0 (OwnStep W0.heap.size v0 (.slice A1 (atomsL (us.take k) l).length c1))
theorem AtRelB.mk {us l : List S41} {w0 W0 : World} {bO : Nat} {v0 i : Value} {wr : World} (k : Nat) (A1 : Option Addr) (c1 : Nat) (h1 : k ≤ us.length) (h2 : i = .int .i64 k) (h3 : Boxed wr bO 22 (.slice A1 (atomsL (us.take k) l).length c1)) (h4 : AT w0 wr (.slice A1 (atomsL (us.take k) l).length c1) (atomsL (us.take k) l)) (h5 : Upd (EvB bO v0) W0 wr) (h6 : OwnStep W0.heap.size v0 (.slice A1 (atomsL (us.take k) l).length c1)) : AtRelB us l w0 W0 bO v0 i wr :=
  ⟨k, A1, c1, h1, h2, ⟨h3⟩, ⟨h4⟩, ⟨h5⟩, ⟨h6⟩⟩
theorem Boxed.types_ne {W : World} {b b' : Nat} {t t' : TypeId} {v v' : Value} (h : Boxed W b t v) (h' : Boxed W b' t' v') (hne : t ≠ t') : b ≠ b' := by
  rintro rfl
  have := h.symm.trans h'
  injection this with this
  injection this with _ this
  exact hne this
theorem AT.ne_box {w0 W : World} {v u : Value} {l : List S41} {b : Nat} {t : TypeId} (h : AT w0 W v l) (hb : Boxed W b t u) (ht : 41 ≠ t) : v.ownBlock ≠ some b := fun e => OwnRow.ne_block h hb ht e.symm

set_option maxRecDepth 100000 in
set_option maxHeartbeats 4000000 in
theorem patoms_node (w0 : World) (bF bO : Nat) (t : S41) (hop : 6 ≤ t.f0 ∧ t.f0 ≤ 10) (ih : ∀ (k : Nat) (x : S41), t.f4[k]? = some x → PAT w0 bF bO x) : PAT w0 bF bO t := by
  intro A c B d A0 c0 l W hP hB hL hs hF hO hw
  have HR := Aside0.mk (show atomsC t l = atomsL t.f4 l by rw [atomsC_eq, if_neg (by omega), if_pos hop])
  have HIH := Aside0.mk ih
  have HSZ : Aside0 (l.length + (t.f4.map csize).sum ≤ 999999) := ⟨by rw [csize_eq, csizeL_sum] at hs; omega⟩
  have hlb := hP.C2.2.1
  have q1 : (t.f0 == 1) = false := by simp; omega
  have q2 : (t.f0 == 2) = false := by simp; omega
  have hq : ((t.f0 == 6) = true) ∨ ((t.f0 == 6) = false ∧ (t.f0 == 7) = true) ∨ ((t.f0 == 6) = false ∧ (t.f0 == 7) = false ∧ (t.f0 == 8) = true) ∨ ((t.f0 == 6) = false ∧ (t.f0 == 7) = false ∧ (t.f0 == 8) = false ∧ (t.f0 == 9) = true) ∨ ((t.f0 == 6) = false ∧ (t.f0 == 7) = false ∧ (t.f0 == 8) = false ∧ (t.f0 == 9) = false ∧ (t.f0 == 10) = true) := by
    simp only [beq_iff_eq, beq_eq_false_iff_ne]; omega
  have HNF : Aside0 (¬ EvB bO (.slice A0 l.length c0) bF) := ⟨fun e => e.elim (fun e => Boxed.types_ne hF hO (by decide) e) (fun e => hL.ne_box hF (by decide) e)⟩
  have HNB : Aside0 (∀ i, EvB bO (.slice A0 l.length c0) i → w0.heap.size ≤ i) := ⟨fun i e => e.elim (fun e => by omega) (fun e => hL.below0 i e)⟩
  have HNX : Aside0 (¬ EvB bO (.slice A0 l.length c0) W.heap.size) := ⟨fun e => e.elim (fun e => by have := hO.lt; omega) (fun e => Nat.lt_irrefl _ (hL.lt _ e))⟩
  have HB := Aside0.mk hB
  have HP := Aside0.mk hP
  have hBW : Below W.heap.size W (W.alloc (.cells (c41 t A c B d) 41)) := below_alloc (Below.refl _ _) _
  have X : (W.alloc (.cells (c41 t A c B d) 41)).heap[W.heap.size]? = some (.cells (c41 t A c B d) 41 (0, 0)) := blk_new _ _
  have HBW := Aside0.mk hBW
  have HX0 := Aside0.mk X
  have HF0 := Aside0.mk (hF.alloc (.cells (c41 t A c B d) 41))
  have HO0 := Aside0.mk (hO.alloc (.cells (c41 t A c B d) 41))
  have HL0 := Aside0.mk (hL.upd (Upd.of_below (E := fun _ => False) hBW) (fun _ _ h => h))
  have hx0 := blk_cell X 0
  have hx4 := blk_cell X 4
  clear hBW hP hB hL hs ih hop X hF hO
  rcases hq with e6 | ⟨e6, e7⟩ | ⟨e6, e7, e8⟩ | ⟨e6, e7, e8, e9⟩ | ⟨e6, e7, e8, e9, e10⟩
  all_goals
    go_enter Tryd.func54, Tryd.ntmps54
    go_upto_region 1 with fail
    generalize hW : W.alloc (.cells (c41 t A c B d) 41) = W0 at *
    clear hW
    go_wp2_with fail
    clear hx0 hx4
    go_loopw [5, 30] (fun _ i wr => AtRelB t.f4 l w0 W0 bO (.slice A0 l.length c0) i wr) (fun _ i _ => t.f4.length - (intOf i).toNat)
    case atStart => exact AtRelB.mk 0 A0 c0 (Nat.zero_le _) rfl HO0.out HL0.out (Upd.refl _ _) (.inl rfl)
    case round =>
      obtain ⟨k, A1, c1, hk, rfl, HO, HA, HU, HS⟩ := hrel
      have HB0 := Aside0.mk (HB.out.trans (HBW.out.mono HB.out.size))
      have HB1 := Aside0.mk (HB0.out.trans (HU.out.below HB0.out.size HNB.out))
      have HF := Aside0.mk (HU.out.boxed HF0.out HNF.out)
      by_cases hlt : k < t.f4.length
      · have hltb : decide (k < t.f4.length) = true := decide_eq_true hlt
        obtain ⟨x, ad, A3, c3, B3, d3, hx, rfl, Z0⟩ := at41 HP.out.C2 k hlt
        have Z := Z0.below HB1.out
        obtain ⟨z0, z1, z2, z3, z4, zl0, zln⟩ := Z.cells
        have HX := Aside0.mk (HIH.out k x hx)
        have HPx := Aside0.mk Z0.P
        have HE := Aside0.mk (atomsL_take hx l)
        have HSz : Aside0 ((atomsL (t.f4.take k) l).length + csize x ≤ 1000000) := ⟨by
          have h1 := atomsT_len t.f4 l k
          have h2 := sumTo_step csize hx
          have h3 := sumTo_le csize t.f4 (k + 1)
          have := HSZ.out
          omega⟩
        clear hx Z0
        generalize atomsL (t.f4.take k) l = L at *
        have f0 := HF.out.cell
        have fl := HF.out.lt
        have fln : ∀ q, bF < wr.heap.size + q := fun q => by omega
        have hWB : Below wr.heap.size wr (wr.alloc (.cells #[.int .i64 x.f0, .string x.f1, .string x.f2, .slice A3 x.f3.length c3, .slice B3 x.f4.length d3] 41)) := below_alloc (Below.refl _ _) _
        have HWB := Aside0.mk hWB
        have HC := Aside0.mk (HX.out A3 c3 B3 d3 A1 c1 L _ HPx.out (HB1.out.trans (hWB.mono HB1.out.size)) (HA.out.upd (Upd.of_below (E := fun _ => False) hWB) (fun _ _ h => h)) HSz.out (HF.out.kept (grown_of_below hWB none) (by simp)) (HO.out.kept (grown_of_below hWB none) (by simp)) hw)
        clear hWB
        go_wp2_with (first | (go_at_call 54; refine HC.out.mono ?_; rintro e w1 ⟨rfl, A2, c2, hb2, ha2, hu2, ho2⟩; have HO2 := Aside0.mk hb2; have HA2 := Aside0.mk ha2; have HS2 := Aside0.mk (HS.out.trans ho2 (Nat.le_trans HU.out.size HWB.out.size)); have HU2 := Aside0.mk ((HU.out.trans (Upd.of_below HWB.out)).ownB HS.out hu2); clear ha2 hu2 ho2 hb2))
        refine ⟨?_, by simp [intOf]; omega⟩
        exact AtRelB.mk (k + 1) A2 c2 (by omega) (by go_num) (by rw [HE.out]; exact HO2.out) (by rw [HE.out]; exact HA2.out) HU2.out (by rw [HE.out]; exact HS2.out)
      · have hltb : decide (k < t.f4.length) = false := decide_eq_false hlt
        have hk2 : t.f4.take k = t.f4 := List.take_of_length_le (by omega)
        rw [hk2] at HA HO HS
        go_wp2_with fail
        go_end0
        rw [HR.out]
        exact ⟨rfl, A1, c1, HO.out, HA.out, (Upd.of_below HBW.out).trans HU.out, OwnStep.trans (n := W.heap.size) (.inl rfl) HS.out HBW.out.size⟩

theorem patoms_all (w0 : World) (bF bO : Nat) (q : Nat) : ∀ (t : S41), csize t ≤ q → PAT w0 bF bO t := by
  induction q with
  | zero => intro t h; rw [csize_eq] at h; omega
  | succ q ih =>
    intro t hq
    by_cases h0 : t.f0 = 1 ∨ t.f0 = 2
    · exact patoms_flat w0 bF bO t h0
    · by_cases h1 : 6 ≤ t.f0 ∧ t.f0 ≤ 10
      · exact patoms_node w0 bF bO t h1 (fun k x hx => ih x (by have := csize_sub hx; omega))
      · exact patoms_leaf w0 bF bO t h0 h1
end Go.Proofs.YtbfgoopomfenjaaDoor
namespace Go.Proofs.YtbfgoopomfenjaaDoor
open Go.RowKit Go.Proofs.YtbfgoopomfenjaaDoorW.PrintWords Go.Proofs.YtbfgoopomfenjaaDoor.PTseitinValues
set_option linter.unusedVariables false
set_option linter.unusedSimpArgs false
attribute [local go_sem] World.cell?_alloc_lt
attribute [local go_sem] run_store_fn

/-- What Atoms gives. -/
def AtomsOut (w0 : World) (cs : List S41) (W : World) (e : Ending) (W' : World) : Prop :=
  ∃ A1 c1, e = .returned (.slice A1 (atomsL cs []).length c1) ∧ AT w0 W' (.slice A1 (atomsL cs []).length c1) (atomsL cs []) ∧ Below W.heap.size W W' ∧ ∀ i, Ev (.slice A1 (atomsL cs []).length c1) i → W.heap.size ≤ i
theorem Ev_nil (i : Nat) : ¬ Ev (.slice none 0 0) i := fun e => by cases e

set_option maxHeartbeats 2000000 in
theorem ref_Atoms (w0 : World) (cs : List S41) (A : Option Addr) (c : Nat) (W : World) (hB : Below w0.heap.size w0 W) (hC : k41.C w0 A cs.length cs) (hs : (cs.map csize).sum ≤ 999999) :
    Calls Tryd.prog 33 #[.slice A cs.length c] W (AtomsOut w0 cs W) := by
  have hla := hC.2.1
  have HB := Aside0.mk hB
  have HC := Aside0.mk hC
  clear hB hC
  go_enter Tryd.func33, Tryd.ntmps33
  go_wp2_with fail
  go_loopw [3, 4] (fun v i wr => AtRel cs [] w0 W (.slice none 0 0) v i wr) (fun _ i _ => cs.length - (intOf i).toNat)
  case atStart => exact AtRel.mk 0 none 0 (Nat.zero_le _) rfl rfl (AT.nil _ _) (Upd.refl _ _) (.inl rfl)
  case round =>
    obtain ⟨k, A1, c1, hk, rfl, rfl, HA, HU, HO⟩ := hrel
    have HB1 := Aside0.mk (HB.out.trans (HU.out.below HB.out.size (fun i e => (Ev_nil i e).elim)))
    by_cases hlt : k < cs.length
    · have hltb : decide (k < cs.length) = true := decide_eq_true hlt
      obtain ⟨x, ad, A3, c3, B3, d3, hx, rfl, Z0⟩ := at41 HC.out k hlt
      have Z := Z0.below HB1.out
      obtain ⟨z0, z1, z2, z3, z4, zl0, zln⟩ := Z.cells
      have HPx := Aside0.mk Z0.P
      have HE := Aside0.mk (atomsL_take hx [])
      have HSz : Aside0 ((atomsL (cs.take k) []).length + csize x ≤ 1000000) := ⟨by
        have h1 := atomsT_len cs [] k
        have h2 := sumTo_step csize hx
        have h3 := sumTo_le csize cs (k + 1)
        have h4 : ([] : List S41).length = 0 := rfl
        omega⟩
      clear hx Z0
      generalize atomsL (cs.take k) [] = L at *
      have HQ := Aside0.mk (ref_atoms x w0 A3 c3 B3 d3 A1 c1 L _ HPx.out HB1.out HA.out HSz.out)
      go_wp2_with (first | (go_at_call 63; refine HQ.out.mono ?_; rintro e w1 ⟨A2, c2, rfl, ha2, hu2, ho2⟩; have HA2 := Aside0.mk ha2; have HU2 := Aside0.mk (HU.out.own HO.out hu2); have HO2 := Aside0.mk (HO.out.trans ho2 HU.out.size); clear ha2 hu2 ho2))
      refine ⟨?_, by simp [intOf]; omega⟩
      exact AtRel.mk (k + 1) A2 c2 (by omega) (by go_num) (by rw [HE.out]) (by rw [HE.out]; exact HA2.out) HU2.out (by rw [HE.out]; exact HO2.out)
    · have hltb : decide (k < cs.length) = false := decide_eq_false hlt
      have hk2 : cs.take k = cs := List.take_of_length_le (by omega)
      rw [hk2] at HA HO
      go_wp2_with fail
      go_ret
      rw [hk2]
      exact ⟨A1, c1, rfl, HA.out, HU.out.below (Nat.le_refl _) (fun i e => (Ev_nil i e).elim), fun i e => HO.out.elim (fun h => by rw [show (Value.slice A1 (atomsL cs []).length c1).ownBlock = some i from e] at h; cases h) (fun ⟨b, hb, hle⟩ => by rw [show (Value.slice A1 (atomsL cs []).length c1).ownBlock = some i from e] at hb; cases hb; exact hle)⟩

set_option maxHeartbeats 2000000 in
theorem prog_Atoms (w0 : World) (cs : List S41) (A : Option Addr) (c : Nat) (W : World) (hB : Below w0.heap.size w0 W) (hC : k41.C w0 A cs.length cs) (hs : (cs.map csize).sum ≤ 999999) :
    Calls Tryd.prog 28 #[.slice A cs.length c] W (AtomsOut w0 cs W) := by
  have hla := hC.2.1
  have HB := Aside0.mk hB
  have HC := Aside0.mk hC
  have hmf : ∀ fn first cap w, (Instr.makeFunc fn first cap).run Tryd.prog w = .ok (.func fn first cap) w := fun _ _ _ _ => rfl
  have B3 : Boxed ((W.alloc (.cells #[.slice none 0 0] 22)).alloc (.cells #[.nilFunc] 74)) (W.heap.size + 1) 74 .nilFunc := by
    have := Boxed.new (W.alloc (.cells #[.slice none 0 0] 22)) 74 .nilFunc
    rwa [World.size_alloc] at this
  have N3 : Boxed ((W.alloc (.cells #[.slice none 0 0] 22)).alloc (.cells #[.nilFunc] 74)) W.heap.size 22 (.slice none 0 0) := (Boxed.new W 22 (.slice none 0 0)).alloc (.cells #[.nilFunc] 74)
  have hBB : Below W.heap.size W ((W.alloc (.cells #[.slice none 0 0] 22)).alloc (.cells #[.nilFunc] 74)) := ((Below.refl _ _).alloc (Nat.le_refl _) _).alloc (by simp) _
  have b3 := B3.cell
  have bf3 := B3.frozen
  clear hB hC
  go_enter Tryd.func28, Tryd.ntmps28
  go_upto_region 3 with fail
  generalize hW : (W.alloc (.cells #[.slice none 0 0] 22)).alloc (.cells #[.nilFunc] 74) = W0 at *
  clear hW
  go_upto_region 4 with fail
  have HF := Aside0.mk (B3.set (.func (.func 54) #[] #[.pointer (some ⟨W.heap.size + 1, 0, none⟩), .pointer (some ⟨W.heap.size, 0, none⟩)]))
  have HB4 := Aside0.mk (hBB.setCell (p := ⟨W.heap.size + 1, 0, none⟩) (by show W.heap.size ≤ W.heap.size + 1; omega) (.func (.func 54) #[] #[.pointer (some ⟨W.heap.size + 1, 0, none⟩), .pointer (some ⟨W.heap.size, 0, none⟩)]))
  have HN4 := Aside0.mk (N3.other (B' := W.heap.size + 1) (by omega) (.func (.func 54) #[] #[.pointer (some ⟨W.heap.size + 1, 0, none⟩), .pointer (some ⟨W.heap.size, 0, none⟩)]))
  clear b3 bf3 B3 N3 hBB
  generalize hW : W0.setCell ⟨W.heap.size + 1, 0, none⟩ (.func (.func 54) #[] #[.pointer (some ⟨W.heap.size + 1, 0, none⟩), .pointer (some ⟨W.heap.size, 0, none⟩)]) = W1 at *
  clear hW
  have HBW := Aside0.mk (HB.out.trans (HB4.out.mono HB.out.size))
  have HBs := Aside0.mk HB.out.size
  go_wp2_with fail
  go_loopw [6, 10] (fun _ i wr => AtRelB cs [] w0 W1 W.heap.size (.slice none 0 0) i wr) (fun _ i _ => cs.length - (intOf i).toNat)
  case atStart => exact AtRelB.mk 0 none 0 (Nat.zero_le _) rfl HN4.out (AT.nil _ _) (Upd.refl _ _) (.inl rfl)
  case round =>
    obtain ⟨k, A1, c1, hk, rfl, HO, HA, HU, HS⟩ := hrel
    have HB1 := Aside0.mk (HBW.out.trans (HU.out.below HBW.out.size (fun i e => e.elim (fun e => by have := HBs.out; omega) (fun e => (Ev_nil i e).elim))))
    have HF1 := Aside0.mk (HU.out.boxed HF.out (fun e => e.elim (fun e => by omega) (fun e => (Ev_nil _ e).elim)))
    by_cases hlt : k < cs.length
    · have hltb : decide (k < cs.length) = true := decide_eq_true hlt
      obtain ⟨x, ad, A3, c3, B3, d3, hx, rfl, Z0⟩ := at41 HC.out k hlt
      have Z := Z0.below HB1.out
      obtain ⟨z0, z1, z2, z3, z4, zl0, zln⟩ := Z.cells
      have HPx := Aside0.mk Z0.P
      have HE := Aside0.mk (atomsL_take hx [])
      have HSz : Aside0 ((atomsL (cs.take k) []).length + csize x ≤ 1000000) := ⟨by
        have h1 := atomsT_len cs [] k
        have h2 := sumTo_step csize hx
        have h3 := sumTo_le csize cs (k + 1)
        have h4 : ([] : List S41).length = 0 := rfl
        omega⟩
      clear hx Z0
      generalize atomsL (cs.take k) [] = L at *
      have f0 := HF1.out.cell
      have fl := HF1.out.lt
      have fln : ∀ q, W.heap.size + 1 < wr.heap.size + q := fun q => by omega
      have hWB : Below wr.heap.size wr (wr.alloc (.cells #[.int .i64 x.f0, .string x.f1, .string x.f2, .slice A3 x.f3.length c3, .slice B3 x.f4.length d3] 41)) := below_alloc (Below.refl _ _) _
      have HWB := Aside0.mk hWB
      have HQ := Aside0.mk (patoms_all w0 (W.heap.size + 1) W.heap.size _ x (Nat.le_refl _) A3 c3 B3 d3 A1 c1 L _ HPx.out (HB1.out.trans (hWB.mono HB1.out.size)) (HA.out.upd (Upd.of_below (E := fun _ => False) hWB) (fun _ _ h => h)) HSz.out (HF1.out.kept (grown_of_below hWB none) (by simp)) (HO.out.kept (grown_of_below hWB none) (by simp)) HBs.out)
      clear hWB
      go_wp2_with (first | (go_at_call 54; refine HQ.out.mono ?_; rintro e w1 ⟨rfl, A2, c2, hb2, ha2, hu2, ho2⟩; have HO2 := Aside0.mk hb2; have HA2 := Aside0.mk ha2; have HS2 := Aside0.mk (HS.out.trans ho2 (Nat.le_trans HU.out.size HWB.out.size)); have HU2 := Aside0.mk ((HU.out.trans (Upd.of_below HWB.out)).ownB HS.out hu2); clear ha2 hu2 ho2 hb2))
      refine ⟨?_, by simp [intOf]; omega⟩
      exact AtRelB.mk (k + 1) A2 c2 (by omega) (by go_num) (by rw [HE.out]; exact HO2.out) (by rw [HE.out]; exact HA2.out) HU2.out (by rw [HE.out]; exact HS2.out)
    · have hltb : decide (k < cs.length) = false := decide_eq_false hlt
      have hk2 : cs.take k = cs := List.take_of_length_le (by omega)
      rw [hk2] at HA HO HS
      have o0 := HO.out.cell
      go_wp2_with fail
      go_ret
      exact ⟨A1, c1, rfl, HA.out, HB4.out.trans (HU.out.below HB4.out.size (fun i e => e.elim (fun e => by omega) (fun e => (Ev_nil i e).elim))), fun i e => HS.out.elim (fun h => by rw [show (Value.slice A1 (atomsL cs []).length c1).ownBlock = some i from e] at h; cases h) (fun ⟨b, hb, hle⟩ => by rw [show (Value.slice A1 (atomsL cs []).length c1).ownBlock = some i from e] at hb; cases hb; exact Nat.le_trans HB4.out.size hle)⟩
end Go.Proofs.YtbfgoopomfenjaaDoor
namespace Go.Proofs.YtbfgoopomfenjaaDoor
open Go.RowKit Go.Proofs.YtbfgoopomfenjaaDoorW.PrintWords Go.Proofs.YtbfgoopomfenjaaDoor.PTseitinValues
set_option linter.unusedVariables false
set_option linter.unusedSimpArgs false
attribute [local go_sem] World.cell?_alloc_lt

/-- Has an operation a variable of its own? -/
def isPart (op : Int) : Bool := op == 1 || op == 2 || (decide (6 ≤ op) && decide (op ≤ 10))

set_option maxRecDepth 100000 in
set_option maxHeartbeats 2000000 in
theorem ts_own (t : S41) (A : Option Addr) (c : Nat) (B : Option Addr) (d : Nat) (w : World) (h1 : 1 ≤ t.f0) (h2 : t.f0 ≤ 12) :
    Calls Tryd.prog 30 #[v41 t A c B d] w fun e w' => e = .returned (.bool (isPart t.f0)) ∧ Below w.heap.size w w' := by
  have HB := Aside0.mk (show Below w.heap.size w (w.alloc (.cells (c41 t A c B d) 41)) from below_alloc (Below.refl _ _) _)
  obtain ⟨op, nm, so, ts, us⟩ := t
  dsimp only at *
  obtain h | h | h | h | h | h | h | h | h | h | h | h : op = 1 ∨ op = 2 ∨ op = 3 ∨ op = 4 ∨ op = 5 ∨ op = 6 ∨ op = 7 ∨ op = 8 ∨ op = 9 ∨ op = 10 ∨ op = 11 ∨ op = 12 := by omega
  all_goals subst h
  all_goals clear h1 h2
  all_goals go_enter Tryd.func30, Tryd.ntmps30
  all_goals go_wp2
  all_goals go_ret
  all_goals exact ⟨rfl, HB.out⟩

set_option maxRecDepth 100000 in
set_option maxHeartbeats 2000000 in
theorem ref_part (t : S41) (A : Option Addr) (c : Nat) (B : Option Addr) (d : Nat) (w : World) (h1 : 1 ≤ t.f0) (h2 : t.f0 ≤ 12) :
    Calls Tryd.prog 64 #[v41 t A c B d] w fun e w' => e = .returned (.bool (isPart t.f0)) ∧ Below w.heap.size w w' := by
  have HB := Aside0.mk (show Below w.heap.size w (w.alloc (.cells (c41 t A c B d) 41)) from below_alloc (Below.refl _ _) _)
  obtain ⟨op, nm, so, ts, us⟩ := t
  dsimp only at *
  obtain h | h | h | h | h | h | h | h | h | h | h | h : op = 1 ∨ op = 2 ∨ op = 3 ∨ op = 4 ∨ op = 5 ∨ op = 6 ∨ op = 7 ∨ op = 8 ∨ op = 9 ∨ op = 10 ∨ op = 11 ∨ op = 12 := by omega
  all_goals subst h
  all_goals clear h1 h2
  all_goals go_enter Tryd.func64, Tryd.ntmps64
  all_goals go_wp2
  all_goals go_ret
  all_goals exact ⟨rfl, HB.out⟩

set_option maxRecDepth 100000 in
set_option maxHeartbeats 4000000 in
theorem ref_place (w0 : World) (l : List S41) (t : S41) (A0 : Option Addr) (c0 : Nat) (A : Option Addr) (c : Nat) (B : Option Addr) (d : Nat) (W : World) (hB : Below w0.heap.size w0 W) (hL : AT w0 W (.slice A0 l.length c0) l) (hP : P41 W t A c B d) (hl : l.length ≤ 1000000) :
    Calls Tryd.prog 45 #[.slice A0 l.length c0, v41 t A c B d] W fun e w' => e = .returned (.int .i64 (posn l t + 1)) ∧ Below W.heap.size W w' := by
  have hBW : Below W.heap.size W (W.alloc (.cells (c41 t A c B d) 41)) := below_alloc (Below.refl _ _) _
  have X : T41 (W.alloc (.cells (c41 t A c B d) 41)) ⟨W.heap.size, 0, none⟩ t A c B d := T41.mk_box (w := W) (blk_new _ _) hP hBW
  have HL := Aside0.mk hL
  have HB := Aside0.mk hB
  have HBW := Aside0.mk hBW
  clear hBW hP hB hL
  go_enter Tryd.func45, Tryd.ntmps45
  go_upto_region 1 with fail
  generalize hW : W.alloc (.cells (c41 t A c B d) 41) = W0 at *
  clear hW
  go_wp2_with fail
  go_loopw [5, 17] (fun i _ wr => ∃ k : Nat, k ≤ l.length ∧ i = .int .i64 k ∧ Aside0 ((l.take k).any (fun x => same x t) = false) ∧ Aside0 (Below W0.heap.size W0 wr)) (fun i _ _ => l.length - (intOf i).toNat)
  case atStart => exact ⟨0, Nat.zero_le _, rfl, ⟨rfl⟩, ⟨Below.refl _ _⟩⟩
  case round =>
    obtain ⟨k, hk, rfl, HN, HBr⟩ := hrel
    have X1 := X.below HBr.out
    obtain ⟨h0, h1, h2, h3, h4, hl0, hln⟩ := X1.box
    have HB1 := Aside0.mk (below_step HBW.out HBr.out)
    have HL1 := Aside0.mk (HL.out.upd (Upd.of_below (E := fun _ => False) HB1.out) (fun _ _ h => h))
    have HB2 := Aside0.mk (HB.out.trans (HB1.out.mono HB.out.size))
    by_cases hlt : k < l.length
    · have hltb : decide (k < l.length) = true := decide_eq_true hlt
      obtain ⟨x, ad, A3, c3, B3, d3, hx, rfl, Z, hPx⟩ := HL1.out.get HB2.out k hlt
      obtain ⟨z0, z1, z2, z3, z4, zl0, zln⟩ := Z.cells
      have HZ := Aside0.mk (show P41 wr x A3 c3 B3 d3 ∧ P41 wr t A c B d from ⟨Z.P, X1.P⟩)
      by_cases hsm : same x t = true
      · have HR := Aside0.mk (posn_at hx hsm HN.out)
        clear hx
        go_wp2_with fail
        go_region_held3 (fun V => V.cell? (ad.add (k * 5)) = some (.int .i64 x.f0) ∧ V.cell? ⟨(ad.add (k * 5)).block, (ad.add (k * 5)).off + 1, none⟩ = some (.string x.f1) ∧ V.cell? ⟨(ad.add (k * 5)).block, (ad.add (k * 5)).off + 2, none⟩ = some (.string x.f2) ∧ V.cell? ⟨(ad.add (k * 5)).block, (ad.add (k * 5)).off + 3, none⟩ = some (.slice A3 x.f3.length c3) ∧ V.cell? ⟨(ad.add (k * 5)).block, (ad.add (k * 5)).off + 4, none⟩ = some (.slice B3 x.f4.length d3) ∧ V.cell? ⟨W.heap.size, 0, none⟩ = some (.int .i64 t.f0) ∧ V.cell? ⟨W.heap.size, 1, none⟩ = some (.string t.f1) ∧ V.cell? ⟨W.heap.size, 2, none⟩ = some (.string t.f2) ∧ V.cell? ⟨W.heap.size, 3, none⟩ = some (.slice A t.f3.length c) ∧ V.cell? ⟨W.heap.size, 4, none⟩ = some (.slice B t.f4.length d)) (go_keep) (first | (go_at_call 69; refine (ref_same x t A3 c3 B3 d3 A c B d _ (HZ.out.1.below (Below.refl _ _).drew) (HZ.out.2.below (Below.refl _ _).drew)).mono ?_; rintro e w1 ⟨rfl, hb⟩; have Z1 := (Z.below (Below.refl _ _).drew).below hb; have X2 := (X1.below (Below.refl _ _).drew).below hb; obtain ⟨a0, a1, a2, a3, a4, al0, aln⟩ := Z1.cells; obtain ⟨b0, b1, b2, b3, b4, bl0, bln⟩ := X2.box; have hb' := Aside0.mk (below_step HBr.out (below_step (Below.refl _ _).drew hb)); clear hb; rw [hsm]))
        go_wp2_with fail
        go_ret
        exact ⟨by rw [HR.out]; rfl, below_step HBW.out hb'.out⟩
      · have hsm : same x t = false := by simpa using hsm
        have HN2 : Aside0 ((l.take (k + 1)).any (fun x => same x t) = false) := ⟨by rw [take_snoc hx, List.any_append, HN.out]; simp [hsm]⟩
        clear hx
        go_wp2_with fail
        go_region_held3 (fun V => V.cell? (ad.add (k * 5)) = some (.int .i64 x.f0) ∧ V.cell? ⟨(ad.add (k * 5)).block, (ad.add (k * 5)).off + 1, none⟩ = some (.string x.f1) ∧ V.cell? ⟨(ad.add (k * 5)).block, (ad.add (k * 5)).off + 2, none⟩ = some (.string x.f2) ∧ V.cell? ⟨(ad.add (k * 5)).block, (ad.add (k * 5)).off + 3, none⟩ = some (.slice A3 x.f3.length c3) ∧ V.cell? ⟨(ad.add (k * 5)).block, (ad.add (k * 5)).off + 4, none⟩ = some (.slice B3 x.f4.length d3) ∧ V.cell? ⟨W.heap.size, 0, none⟩ = some (.int .i64 t.f0) ∧ V.cell? ⟨W.heap.size, 1, none⟩ = some (.string t.f1) ∧ V.cell? ⟨W.heap.size, 2, none⟩ = some (.string t.f2) ∧ V.cell? ⟨W.heap.size, 3, none⟩ = some (.slice A t.f3.length c) ∧ V.cell? ⟨W.heap.size, 4, none⟩ = some (.slice B t.f4.length d)) (go_keep) (first | (go_at_call 69; refine (ref_same x t A3 c3 B3 d3 A c B d _ (HZ.out.1.below (Below.refl _ _).drew) (HZ.out.2.below (Below.refl _ _).drew)).mono ?_; rintro e w1 ⟨rfl, hb⟩; have Z1 := (Z.below (Below.refl _ _).drew).below hb; have X2 := (X1.below (Below.refl _ _).drew).below hb; obtain ⟨a0, a1, a2, a3, a4, al0, aln⟩ := Z1.cells; obtain ⟨b0, b1, b2, b3, b4, bl0, bln⟩ := X2.box; have hb' := Aside0.mk (below_step HBr.out (below_step (Below.refl _ _).drew hb)); clear hb; rw [hsm]))
        go_wp2_with fail
        refine ⟨⟨k + 1, by omega, by go_num, HN2, hb'⟩, ?_⟩
        simp [intOf]; omega
    · have hltb : decide (k < l.length) = false := decide_eq_false hlt
      have HR : Aside0 (posn l t = -1) := ⟨posn_none (by
        have h1 := HN.out
        rwa [show k = l.length by omega, List.take_length] at h1)⟩
      go_wp2_with fail
      go_ret
      exact ⟨by rw [HR.out]; rfl, HB1.out⟩
end Go.Proofs.YtbfgoopomfenjaaDoor
namespace Go.Proofs.YtbfgoopomfenjaaDoor
open Go.RowKit Go.Proofs.YtbfgoopomfenjaaDoorW.PrintWords Go.Proofs.YtbfgoopomfenjaaDoorW.PrintLast Go.Proofs.YtbfgoopomfenjaaDoor.PTseitinValues
set_option linter.unusedVariables false
set_option linter.unusedSimpArgs false
attribute [local go_sem] World.cell?_alloc_lt

/-- The clauses of one part, v its variable, x its parts' literals. -/
def cls (op : Int) (v : Int) (x : List Int) : List (List Int) :=
  if op = 1 then [[v]] else if op = 2 then [[-v]] else if op = 6 then [[-v, -x.getD 0 0], [v, x.getD 0 0]]
  else if op = 7 then [[-v, x.getD 0 0], [-v, x.getD 1 0], [v, -x.getD 0 0, -x.getD 1 0]]
  else if op = 8 then [[-v, x.getD 0 0, x.getD 1 0], [v, -x.getD 0 0], [v, -x.getD 1 0]]
  else if op = 9 then [[-v, -x.getD 0 0, x.getD 1 0], [v, x.getD 0 0], [v, -x.getD 1 0]]
  else [[-v, -x.getD 0 0, x.getD 1 0], [-v, x.getD 0 0, -x.getD 1 0], [v, x.getD 0 0, x.getD 1 0], [v, -x.getD 0 0, -x.getD 1 0]]
theorem cls_len (op v : Int) (x : List Int) : (cls op v x).length ≤ 4 := by unfold cls; (repeat' split) <;> simp

/-- How many variables, and the clauses. -/
structure LS where
  n : Nat
  l : List (List Int)
mutual
/-- A claim laid out: b: stops it where there are too many clauses? -/
def layC (b : Bool) (at_ : List S41) : S41 → LS → LS × Int
  | ⟨o, n, s, ts, us⟩, st =>
    if isPart o = true then
      ((⟨(layL b at_ us st []).1.n + 1, if b = true ∧ 4096 < (layL b at_ us st []).1.l.length then (layL b at_ us st []).1.l else (layL b at_ us st []).1.l ++ cls o ((layL b at_ us st []).1.n + 1 : Nat) (layL b at_ us st []).2⟩ : LS), ((layL b at_ us st []).1.n + 1 : Nat))
    else (st, posn at_ ⟨o, n, s, ts, us⟩ + 1)
def layL (b : Bool) (at_ : List S41) : List S41 → LS → List Int → LS × List Int
  | [], st, x => (st, x)
  | a :: us, st, x => layL b at_ us (layC b at_ a st).1 (x ++ [(layC b at_ a st).2])
end
theorem layC_part (b : Bool) (at_ : List S41) (t : S41) (st : LS) (h : isPart t.f0 = true) : layC b at_ t st =
    ((⟨(layL b at_ t.f4 st []).1.n + 1, if b = true ∧ 4096 < (layL b at_ t.f4 st []).1.l.length then (layL b at_ t.f4 st []).1.l else (layL b at_ t.f4 st []).1.l ++ cls t.f0 ((layL b at_ t.f4 st []).1.n + 1 : Nat) (layL b at_ t.f4 st []).2⟩ : LS), (((layL b at_ t.f4 st []).1.n + 1 : Nat) : Int)) := by
  cases t; rw [layC, if_pos h]
theorem layC_atom (b : Bool) (at_ : List S41) (t : S41) (st : LS) (h : isPart t.f0 = false) : layC b at_ t st = (st, posn at_ t + 1) := by
  cases t; rw [layC, if_neg (by simp_all)]
theorem layL_snoc (b : Bool) (at_ : List S41) (us : List S41) (y : S41) (st : LS) (x : List Int) : layL b at_ (us ++ [y]) st x = ((layC b at_ y (layL b at_ us st x).1).1, (layL b at_ us st x).2 ++ [(layC b at_ y (layL b at_ us st x).1).2]) := by
  induction us generalizing st x with
  | nil => rw [List.nil_append, layL, layL, layL]
  | cons a us ih => rw [List.cons_append, layL, ih, layL]
theorem layL_take (b : Bool) (at_ : List S41) {us : List S41} {k : Nat} {y : S41} (hy : us[k]? = some y) (st : LS) (x : List Int) : layL b at_ (us.take (k + 1)) st x = ((layC b at_ y (layL b at_ (us.take k) st x).1).1, (layL b at_ (us.take k) st x).2 ++ [(layC b at_ y (layL b at_ (us.take k) st x).1).2]) := by
  rw [take_snoc hy, layL_snoc]
theorem layL_len2 (b : Bool) (at_ : List S41) (us : List S41) (st : LS) (x : List Int) : (layL b at_ us st x).2.length = x.length + us.length := by
  induction us generalizing st x with
  | nil => rw [layL]; rfl
  | cons a us ih => rw [layL, ih]; simp; omega
/-- How much a claim may add. -/
theorem layC_bound (b : Bool) (at_ : List S41) (q : Nat) : ∀ (t : S41) (st : LS), csize t ≤ q → st.n ≤ (layC b at_ t st).1.n ∧ (layC b at_ t st).1.n ≤ st.n + csize t ∧ (layC b at_ t st).1.l.length ≤ st.l.length + 4 * csize t := by
  induction q with
  | zero => intro t st h; rw [csize_eq] at h; omega
  | succ q ih =>
    intro t st h
    have hL : ∀ us : List S41, csizeL us ≤ q → ∀ (st : LS) (x : List Int), st.n ≤ (layL b at_ us st x).1.n ∧ (layL b at_ us st x).1.n ≤ st.n + csizeL us ∧ (layL b at_ us st x).1.l.length ≤ st.l.length + 4 * csizeL us := by
      intro us
      induction us with
      | nil => intro _ st x; rw [layL, csizeL]; exact ⟨Nat.le_refl _, Nat.le_refl _, Nat.le_refl _⟩
      | cons a us ih2 =>
        intro hu st x
        rw [csizeL] at hu ⊢
        rw [layL]
        have h1 := ih2 (by omega) (layC b at_ a st).1 (x ++ [(layC b at_ a st).2])
        have h2 := ih a st (by omega)
        omega
    rw [csize_eq] at h ⊢
    by_cases hp : isPart t.f0 = true
    · rw [layC_part b at_ t st hp]
      have h1 := hL t.f4 (by omega) st []
      refine ⟨by show st.n ≤ _ + 1; omega, by show _ + 1 ≤ _; omega, ?_⟩
      show (if b = true ∧ 4096 < (layL b at_ t.f4 st []).1.l.length then (layL b at_ t.f4 st []).1.l else (layL b at_ t.f4 st []).1.l ++ cls t.f0 ((layL b at_ t.f4 st []).1.n + 1 : Nat) (layL b at_ t.f4 st []).2).length ≤ _
      split
      · omega
      · rw [List.length_append]
        have := cls_len t.f0 ((layL b at_ t.f4 st []).1.n + 1 : Nat) (layL b at_ t.f4 st []).2
        omega
    · rw [layC_atom b at_ t st (by simpa using hp)]
      exact ⟨Nat.le_refl _, Nat.le_add_right _ _, Nat.le_add_right _ _⟩

/-- An inner row: it lies in a block of ints that F allows. -/
def RI (F : Nat → Prop) (W : World) (ns : List Int) (cs : List Value) : Prop :=
  ∃ A c, cs = [.slice A ns.length c] ∧ ns.length ≤ c ∧ (Kd.int .i64).C W A ns.length ns ∧ ∀ a, A = some a → F a.block ∧ ∃ cur, W.heap[a.block]? = some (.cells cur 3 (0, 0))
/-- A row of rows. -/
def LT (n0 : Nat) (F : Nat → Prop) (W : World) (v : Value) (L : List (List Int)) : Prop := OwnRow (RI F W) 54 1 W n0 v L
theorem LT.nil (n0 : Nat) (F : Nat → Prop) (W : World) : LT n0 F W (.slice none 0 0) [] := OwnRow.none_ _ _ _ _ _
theorem RI.move {F F' : Nat → Prop} {W W' : World} {ns : List Int} {cs : List Value} (h : RI F W ns cs) (hF : ∀ i cur, F i → W.heap[i]? = some (.cells cur 3 (0, 0)) → W'.heap[i]? = W.heap[i]? ∧ F' i) : RI F' W' ns cs := by
  obtain ⟨A, c, rfl, hl, hC, hA⟩ := h
  refine ⟨A, c, rfl, hl, ?_, ?_⟩
  · refine ⟨hC.1, hC.2.1, fun hn => ?_⟩
    obtain ⟨ad, rfl, hc⟩ := hC.2.2 hn
    obtain ⟨hf, cur, hcur⟩ := hA ad rfl
    have hb := (hF _ cur hf hcur).1
    refine ⟨ad, rfl, fun j p hj => ?_⟩
    obtain ⟨c, hs, hr, hcell⟩ := hc j p hj
    exact ⟨c, hs, hr, fun i u hi => (World.cell?_of_block (w := W) (a := ad.add (j * (Kd.int .i64).sz + i)) (by rw [show (ad.add (j * (Kd.int .i64).sz + i)).block = ad.block by (unfold Addr.add; split <;> rfl)]; exact hb)).trans (hcell i u hi)⟩
  · intro a ha
    obtain ⟨hf, cur, hcur⟩ := hA a ha
    obtain ⟨h1, h2⟩ := hF _ cur hf hcur
    exact ⟨h2, cur, h1.trans hcur⟩
theorem LT.move {n0 : Nat} {F F' : Nat → Prop} {W W' : World} {v : Value} {L : List (List Int)} (h : LT n0 F W v L) (hv : ∀ i, Ev v i → W'.heap[i]? = W.heap[i]?) (hF : ∀ i cur, F i → W.heap[i]? = some (.cells cur 3 (0, 0)) → W'.heap[i]? = W.heap[i]? ∧ F' i) : LT n0 F' W' v L := by
  obtain ⟨inner, ho, hr⟩ := h
  exact ⟨inner, own_move ho hv, hr.imp_ (fun _ _ hp => hp.move hF)⟩
theorem LT.upd {n0 : Nat} {F : Nat → Prop} {W W' : World} {v : Value} {L : List (List Int)} {E : Nat → Prop} (h : LT n0 F W v L) (hu : Upd E W W') (hv : ∀ i, Ev v i → ¬ E i) (hF : ∀ i cur, F i → W.heap[i]? = some (.cells cur 3 (0, 0)) → ¬ E i) : LT n0 F W' v L :=
  h.move (fun i hi => hu.block i (by obtain ⟨inner, ho, _⟩ := h; exact own_lt ho i hi) (hv i hi)) (fun i cur hf hc => ⟨hu.block i (blk_lt hc) (hF i cur hf hc), hf⟩)
theorem LT.below {n0 : Nat} {F : Nat → Prop} {W W' : World} {v : Value} {L : List (List Int)} (h : LT n0 F W v L) (hb : Below W.heap.size W W') : LT n0 F W' v L := h.upd (Upd.of_below (E := fun _ => False) hb) (fun _ _ h => h) (fun _ _ _ _ h => h)
theorem LT.weaken {n0 : Nat} {F F' : Nat → Prop} {W : World} {v : Value} {L : List (List Int)} (h : LT n0 F W v L) (hF : ∀ i, F i → i < W.heap.size → F' i) : LT n0 F' W v L := h.move (fun _ _ => rfl) (fun i cur hf hc => ⟨rfl, hF i hf (blk_lt hc)⟩)
theorem LT.base {n0 : Nat} {F : Nat → Prop} {W : World} {v : Value} {L : List (List Int)} (h : LT n0 F W v L) (i : Nat) (hi : Ev v i) : n0 ≤ i := by
  obtain ⟨inner, ho, _⟩ := h; exact own_base ho i hi
theorem LT.lt {n0 : Nat} {F : Nat → Prop} {W : World} {v : Value} {L : List (List Int)} (h : LT n0 F W v L) (i : Nat) (hi : Ev v i) : i < W.heap.size := by
  obtain ⟨inner, ho, _⟩ := h; exact own_lt ho i hi
theorem LT.ne {n0 : Nat} {F : Nat → Prop} {W : World} {v : Value} {L : List (List Int)} (h : LT n0 F W v L) {g : Nat} {t : TypeId} {cs : Array Value} (hb : W.heap[g]? = some (.cells cs t (0, 0))) (ht : 54 ≠ t) : v.ownBlock ≠ some g := fun e => OwnRow.ne_block h hb ht e.symm
/-- To be read. -/
theorem LT.reads {n0 : Nat} {F : Nat → Prop} {W : World} {v : Value} {L : List (List Int)} (h : LT n0 F W v L) : ∃ A c, v = .slice A L.length c ∧ L.length ≤ c ∧ (Kd.slice 3 (Kd.int .i64)).C W A L.length L := by
  obtain ⟨A, c, he, hl, hr⟩ := OwnRow.reads h
  refine ⟨A, c, he, hl, hr.imp_ (Below.refl _ _) (fun p cs hp => ?_)⟩
  obtain ⟨A0, c0, rfl, hl0, hC, _⟩ := hp
  exact ⟨A0, c0, rfl, hl0, hC⟩

theorem info54 : (Tryd.prog.info? 54).map (fun i => (i.zero, i.size, i.bytes)) = some (some (.slice none 0 0), 1, 24) := by kernel_rfl
/-- What an append of rows leaves. -/
theorem run_append_rows {F : Nat → Prop} {n0 : Nat} {W : World} {ty : TypeId} {v : Value} {L M : List (List Int)} {ad : Addr} {m : Nat} {news : List Value} (hnews : ∀ j u, news[j]? = some u → W.cell? (ad.add j) = some u) (hR : Reps (RI F W) 1 M news) (hm : M.length = m) (h1 : ∀ u ∈ news, u.oneCell' = true)
    (HO : LT n0 F W v L) (hbase : n0 ≤ W.heap.size) (hl : L.length + m ≤ 1000000000) :
    ∃ v1 w1, (Builtin.append_ #[25, 25] ty #[v, .slice (some ad) m m]).run Tryd.prog W = .ok v1 w1 ∧ LT n0 F w1 v1 (L ++ M) ∧ W.grownBy w1 v.ownBlock ∧ OwnStep W.heap.size v v1 := by
  obtain ⟨inner, ho, hr⟩ := HO
  obtain ⟨i0, hi, hzz⟩ := Option.map_eq_some_iff.1 info54
  simp only [Prod.mk.injEq] at hzz
  obtain ⟨hz0, hz1, hz2⟩ := hzz
  obtain ⟨v1, w1, hrun, hown, hg, _, hat⟩ := run_append_own_at (P := Tryd.prog) W n0 25 ty 54 i0 (.slice none 0 0) 1 24 Tryd.underlying25 hi hz0 hz1 hz2 rfl (by omega) v L.length inner ho ad m m news (by rw [hR.1, hm]) hnews h1 (by simp only [maxLen]; omega) (by omega) hbase
  have hmv : ∀ (p : List Int) (c : List Value), RI F W p c → RI F w1 p c := fun p c hp => hp.move (fun i cur hf hc => ⟨hg.block i (blk_lt hc) (fun e => own_ne ho hc (by decide) e), hf⟩)
  refine ⟨v1, w1, hrun, ⟨inner ++ news, by rw [List.length_append, hm]; exact hown, ?_⟩, hg, ?_⟩
  · exact Kd.reps_append (hr.imp_ hmv) (hR.imp_ hmv)
  · rcases hat with hat | hat
    · exact .inl hat
    · exact .inr ⟨_, hat, Nat.le_refl _⟩
end Go.Proofs.YtbfgoopomfenjaaDoor
namespace Go.Proofs.YtbfgoopomfenjaaDoor
open Go.RowKit Go.Proofs.YtbfgoopomfenjaaDoorW.PrintWords Go.Proofs.YtbfgoopomfenjaaDoorW.PrintLast Go.Proofs.YtbfgoopomfenjaaDoor.PTseitinValues
set_option linter.unusedVariables false
set_option linter.unusedSimpArgs false
attribute [local go_sem] World.cell?_alloc_lt

theorem cparts_ok {t : S41} (h : cparts t = 0) : (1 ≤ t.f0 ∧ t.f0 ≤ 12) ∧ (t.f4.length : Int) = csN t.f0 ∧ ∀ (k : Nat) (x : S41), t.f4[k]? = some x → cparts x = 0 := by
  rw [cparts_eq] at h
  have h1 : cform t = false := by
    cases hc : cform t with
    | false => rfl
    | true => rw [if_pos hc] at h; exact absurd h (by decide)
  rw [if_neg (by rw [h1]; decide)] at h
  have h2 : cari t = false := by
    cases hc : cari t with
    | false => rfl
    | true => rw [if_pos hc] at h; exact absurd h (by decide)
  rw [if_neg (by rw [h2]; decide)] at h
  have h3 : firstNZ (t.f4.map cparts) = 0 := by
    split at h
    · rename_i hn; exact absurd h hn
    · exact h
  refine ⟨?_, ?_, fun k x hx => ?_⟩
  · unfold cform at h1
    simp only [Bool.or_eq_false_iff, decide_eq_false_iff_not] at h1
    omega
  · unfold cari at h2
    simp only [Bool.or_eq_false_iff, bne_eq_false_iff_eq] at h2
    exact h2.2
  · exact firstNZ_zero.1 h3 _ (List.mem_map_of_mem (List.mem_of_getElem? hx))
theorem posn_le (l : List S41) (t : S41) : -1 ≤ posn l t ∧ posn l t < l.length + 1 := by
  unfold posn
  split
  · have := List.findIdx_le_length (xs := l) (p := fun x => same x t); omega
  · omega
theorem layC_val (b : Bool) (at_ : List S41) (t : S41) (st : LS) (h1 : at_.length ≤ 1000000) (h2 : st.n + csize t ≤ 1000000) : 0 ≤ (layC b at_ t st).2 ∧ (layC b at_ t st).2 ≤ 1000001 := by
  by_cases hp : isPart t.f0 = true
  · have h3 := (layC_bound b at_ _ t st (Nat.le_refl _)).2.1
    rw [layC_part b at_ t st hp] at h3 ⊢
    have h4 : (layL b at_ t.f4 st []).1.n + 1 ≤ st.n + csize t := h3
    refine ⟨Int.natCast_nonneg _, ?_⟩
    show (((layL b at_ t.f4 st []).1.n + 1 : Nat) : Int) ≤ 1000001
    omega
  · rw [layC_atom b at_ t st (by simpa using hp)]
    have := posn_le at_ t
    show 0 ≤ posn at_ t + 1 ∧ posn at_ t + 1 ≤ 1000001
    omega
theorem layL_nl (b : Bool) (at_ : List S41) (us : List S41) (st : LS) (k : Nat) : (layL b at_ (us.take k) st []).1.n ≤ st.n + sumTo csize us k ∧ (layL b at_ (us.take k) st []).1.l.length ≤ st.l.length + 4 * sumTo csize us k ∧ st.n ≤ (layL b at_ (us.take k) st []).1.n := by
  induction k with
  | zero => rw [List.take_zero, layL]; exact ⟨Nat.le_add_right _ _, Nat.le_add_right _ _, Nat.le_refl _⟩
  | succ k ih =>
    rcases Nat.lt_or_ge k us.length with h | h
    · have hx : us[k]? = some us[k] := List.getElem?_eq_getElem h
      rw [layL_take b at_ hx, sumTo_step csize hx]
      have := layC_bound b at_ _ us[k] (layL b at_ (us.take k) st []).1 (Nat.le_refl _)
      show (layC b at_ us[k] (layL b at_ (us.take k) st []).1).1.n ≤ _ ∧ (layC b at_ us[k] (layL b at_ (us.take k) st []).1).1.l.length ≤ _ ∧ _
      refine ⟨by omega, by omega, ?_⟩
      show st.n ≤ (layC b at_ us[k] (layL b at_ (us.take k) st []).1).1.n
      omega
    · have e : us.take (k + 1) = us.take k := by rw [List.take_of_length_le h, List.take_of_length_le (by omega)]
      have e2 : sumTo csize us (k + 1) = sumTo csize us k := by unfold sumTo; rw [e]
      rw [e, e2]; exact ih

/-- Out's block. -/
def OutAt (W : World) (bO : Nat) (n : Nat) (v : Value) : Prop := W.heap[bO]? = some (.cells #[.int .i64 n, v] 27 (0, 0))
/-- What lay leaves. -/
def LayOut (w0 : World) (bO : Nat) (F : Nat → Prop) (r : LS × Int) (v : Value) (W : World) (e : Ending) (W' : World) : Prop :=
  e = .returned (.int .i64 r.2) ∧ ∃ A1 c1, OutAt W' bO r.1.n (.slice A1 r.1.l.length c1) ∧ LT w0.heap.size (fun i => F i ∨ W.heap.size ≤ i) W' (.slice A1 r.1.l.length c1) r.1.l ∧ Upd (EvB bO v) W W' ∧ OwnStep W.heap.size v (.slice A1 r.1.l.length c1)
def PL (w0 : World) (at_ : List S41) (bA bL bO : Nat) (t : S41) : Prop := ∀ (A : Option Addr) (c : Nat) (B : Option Addr) (d : Nat) (A0 : Option Addr) (c0 : Nat) (Aa : Option Addr) (ca : Nat) (st : LS) (F : Nat → Prop) (W : World), P41 w0 t A c B d → Below w0.heap.size w0 W → cparts t = 0 →
  AT w0 W (.slice Aa at_.length ca) at_ → Boxed W bA 22 (.slice Aa at_.length ca) → Boxed W bL 56 (.func (.func 29) #[] #[.pointer (some ⟨bA, 0, none⟩), .pointer (some ⟨bL, 0, none⟩), .pointer (some ⟨bO, 0, none⟩)]) →
  OutAt W bO st.n (.slice A0 st.l.length c0) → LT w0.heap.size F W (.slice A0 st.l.length c0) st.l → w0.heap.size ≤ bO → st.n + csize t ≤ 1000000 → st.l.length + 4 * csize t ≤ 100000000 → at_.length ≤ 1000000 →
  Calls Tryd.prog 29 #[v41 t A c B d, .pointer (some ⟨bA, 0, none⟩), .pointer (some ⟨bL, 0, none⟩), .pointer (some ⟨bO, 0, none⟩)] W (LayOut w0 bO F (layC true at_ t st) (.slice A0 st.l.length c0) W)

set_option maxRecDepth 100000 in
set_option maxHeartbeats 4000000 in
theorem lay_atom (w0 : World) (at_ : List S41) (bA bL bO : Nat) (t : S41) (hp : isPart t.f0 = false) : PL w0 at_ bA bL bO t := by
  intro A c B d A0 c0 Aa ca st F W hP hB hR hAT hbA hbL hO hL hw hn hl ha
  have HR := Aside0.mk (layC_atom true at_ t st hp)
  obtain ⟨⟨h1, h2⟩, _, _⟩ := cparts_ok hR
  have hpo := posn_le at_ t
  have hBW : Below W.heap.size W (W.alloc (.cells (c41 t A c B d) 41)) := below_alloc (Below.refl _ _) _
  have X : T41 (W.alloc (.cells (c41 t A c B d) 41)) ⟨W.heap.size, 0, none⟩ t A c B d := T41.mk_box (w := W) (blk_new _ _) (hP.below hB) hBW
  have HB := Aside0.mk (hB.trans (hBW.mono hB.size))
  have HAT := Aside0.mk (hAT.upd (Upd.of_below (E := fun _ => False) hBW) (fun _ _ h => h))
  have HbA := Aside0.mk (hbA.kept (grown_of_below hBW none) (by simp))
  have HO := Aside0.mk hO
  have HL := Aside0.mk hL
  have HBW := Aside0.mk hBW
  clear hBW hP hB hAT hbA hbL hO hL hR
  go_enter Tryd.func29, Tryd.ntmps29
  go_upto_region 1 with fail
  generalize hW : W.alloc (.cells (c41 t A c B d) 41) = W0 at *
  clear hW
  obtain ⟨k0, k1, k2, k3, k4, kl0, kln⟩ := X.box
  have a0 := HbA.out.cell
  generalize hpp : posn at_ t = pz at *
  go_wp2_with (first
    | (go_at_call 30; refine (ts_own t A c B d _ h1 h2).mono ?_; rintro e w1 ⟨rfl, hb⟩; have X1 := X.below hb; obtain ⟨m0, m1, m2, m3, m4, ml0, mln⟩ := X1.box; have HbA1 := Aside0.mk (HbA.out.kept (grown_of_below hb none) (by simp)); have HAT1 := Aside0.mk (HAT.out.upd (Upd.of_below (E := fun _ => False) hb) (fun _ _ h => h)); have HB1 := Aside0.mk (HB.out.trans (hb.mono HB.out.size)); have HBW1 := Aside0.mk (below_step HBW.out hb); clear hb; have b0 := HbA1.out.cell; rw [hp])
    | (go_at_call 31; refine (ts_place w0 at_ t Aa ca A c B d _ HB1.out HAT1.out X1.P ha).mono ?_; rintro e w2 ⟨rfl, hb⟩; have HBW2 := Aside0.mk (below_step HBW1.out hb); clear hb; rw [hpp]))
  go_ret
  rw [HR.out]
  exact ⟨rfl, A0, c0, (HBW2.out.block bO (blk_lt HO.out)).trans HO.out, (HL.out.below HBW2.out).weaken (fun i hi _ => .inl hi), Upd.of_below HBW2.out, .inl rfl⟩
end Go.Proofs.YtbfgoopomfenjaaDoor
namespace Go.Proofs.YtbfgoopomfenjaaDoor
open Go.RowKit Go.Proofs.YtbfgoopomfenjaaDoorW.PrintWords Go.Proofs.YtbfgoopomfenjaaDoorW.PrintLast Go.Proofs.YtbfgoopomfenjaaDoor.PTseitinValues
set_option linter.unusedVariables false
set_option linter.unusedSimpArgs false
attribute [local go_sem] World.cell?_alloc_lt

theorem info3 : (Tryd.prog.info? 3).map (fun i => (i.zero, i.size, i.bytes)) = some (some (.int .i64 0), 1, 8) := by kernel_rfl
/-- The literals so far, the clauses so far. -/
def LayRel (at_ us : List S41) (st : LS) (w0 W0 : World) (bO : Nat) (F : Nat → Prop) (v0 v6 i : Value) (wr : World) : Prop :=
  ∃ k Ax cx A1 c1, k ≤ us.length ∧ i = .int .i64 (k : Nat) ∧ v6 = .slice Ax k cx ∧
    Aside0 (wr.ownsRow W0.heap.size 3 1 (.slice Ax k cx) k (nums .i64 (layL true at_ (us.take k) st []).2)) ∧
    Aside0 (OutAt wr bO (layL true at_ (us.take k) st []).1.n (.slice A1 (layL true at_ (us.take k) st []).1.l.length c1)) ∧
    Aside0 (LT w0.heap.size (fun i => (F i ∨ W0.heap.size ≤ i) ∧ ¬ Ev (.slice Ax k cx) i) wr (.slice A1 (layL true at_ (us.take k) st []).1.l.length c1) (layL true at_ (us.take k) st []).1.l) ∧
    Aside0 (Upd (EvB bO v0) W0 wr) ∧ Aside0 (OwnStep W0.heap.size v0 (.slice A1 (layL true at_ (us.take k) st []).1.l.length c1))
theorem LayRel.mk {at_ us : List S41} {st : LS} {w0 W0 : World} {bO : Nat} {F : Nat → Prop} {v0 v6 i : Value} {wr : World} (k : Nat) (Ax : Option Addr) (cx : Nat) (A1 : Option Addr) (c1 : Nat) (r : LS × List Int) (hr : layL true at_ (us.take k) st [] = r) (h1 : k ≤ us.length) (h2 : i = .int .i64 k) (h3 : v6 = .slice Ax k cx)
    (h4 : wr.ownsRow W0.heap.size 3 1 (.slice Ax k cx) k (nums .i64 r.2)) (h5 : OutAt wr bO r.1.n (.slice A1 r.1.l.length c1)) (h6 : LT w0.heap.size (fun i => (F i ∨ W0.heap.size ≤ i) ∧ ¬ Ev (.slice Ax k cx) i) wr (.slice A1 r.1.l.length c1) r.1.l) (h7 : Upd (EvB bO v0) W0 wr) (h8 : OwnStep W0.heap.size v0 (.slice A1 r.1.l.length c1)) :
    LayRel at_ us st w0 W0 bO F v0 v6 i wr := by subst hr; exact ⟨k, Ax, cx, A1, c1, h1, h2, h3, ⟨h4⟩, ⟨h5⟩, ⟨h6⟩, ⟨h7⟩, ⟨h8⟩⟩
theorem own_types {W : World} {b b' e e' s s' n n' : Nat} {v v' : Value} {xs xs' : List Value} (h : W.ownsRow b e s v n xs) (h' : W.ownsRow b' e' s' v' n' xs') (hne : e ≠ e') (i : Nat) (hi : v.ownBlock = some i) : v'.ownBlock ≠ some i := fun hj => by
  rcases own_type_ne h h' hne with h1 | h1
  · rw [h1] at hi; cases hi
  · exact h1 (hi.trans hj.symm)

theorem RI.blk {F : Nat → Prop} {W : World} {b : Nat} {ns : List Int} (h : W.heap[b]? = some (.cells (nums .i64 ns).toArray 3 (0, 0))) (hf : F b) (hl : ns.length ≤ 1000000) : RI F W ns [.slice (some ⟨b, 0, none⟩) ns.length ns.length] := by
  refine ⟨some ⟨b, 0, none⟩, ns.length, rfl, Nat.le_refl _, ⟨rfl, by omega, fun _ => ⟨_, rfl, fun j p hj => ⟨[.int .i64 p], rfl, rfl, fun i u hi => ?_⟩⟩⟩, fun a ha => by cases ha; exact ⟨hf, _, h⟩⟩
  cases i with
  | zero =>
    have hu : u = .int .i64 p := by simpa using hi.symm
    subst hu
    have hjl : j < ns.length := (List.getElem?_eq_some_iff.1 hj).1
    have hz : (⟨b, 0, none⟩ : Addr).add (j * (Kd.int .i64).sz + 0) = ⟨b, j, none⟩ := by
      show (⟨b, 0, none⟩ : Addr).add (j * 1 + 0) = _
      unfold Addr.add
      split
      · rename_i h0; have : j = 0 := by omega
        subst this; rfl
      · simp
    rw [hz]
    simp [World.cell?, h, nums, hj]
  | succ i => simp at hi
/-- append(v, rows..), in a walk. -/
theorem LT.append {ops : Array Oper} {rest : List Oper} {o : Oper} {a : Act} {Q : Exit → Act → World → Prop} {F : Nat → Prop} {n0 : Nat} {W : World} (hgd : o.guard = none) (s x : Operand) (ho : o.op = .call { callee := .builtin .append, args := #[s, x], argTypes := #[25, 25] })
    (v : Value) (L M : List (List Int)) (ad : Addr) (m : Nat) (news : List Value) (hs : a.eval s = v) (hx : a.eval x = .slice (some ad) m m) (hnews : ∀ j u, news[j]? = some u → W.cell? (ad.add j) = some u) (hR : Reps (RI F W) 1 M news) (hm : M.length = m) (h1 : ∀ u ∈ news, u.oneCell' = true)
    (HO : LT n0 F W v L) (hbase : n0 ≤ W.heap.size) (hl : L.length + m ≤ 1000000000)
    (h : ∀ v1 w1, LT n0 F w1 v1 (L ++ M) → W.grownBy w1 v.ownBlock → OwnStep W.heap.size v v1 → wpList Tryd.prog ops Q rest (a.put o.dst v1) w1) : wpList Tryd.prog ops Q (o :: rest) a W := by
  refine wpList_plain hgd fun K hK => ?_
  obtain ⟨v1, w1, hr, k1, k2, k3⟩ := run_append_rows (ty := o.type) hnews hR hm h1 HO hbase hl
  unfold Oper.wp execOp
  simp only [ho, resolve, invoke, builtin, Sem.run_bind, Sem.run_pure, Result.andThen_ok, List.map_toArray, List.map_cons, List.map_nil, hs, hx, hr]
  exact hK _ _ (h v1 w1 k1 k2 k3)
/-- The same, a step of a region that draws. -/
theorem LT.append_step {ops : Array Oper} {o : Oper} {a : Act} {Q : Exit → Act → World → Prop} {Kc : Act → World → Prop} {F : Nat → Prop} {n0 : Nat} {W : World} (hw : Region.wanted o (yielded ops a.tmps) = true) (s x : Operand) (ho : o.op = .call { callee := .builtin .append, args := #[s, x], argTypes := #[25, 25] })
    (v : Value) (L M : List (List Int)) (ad : Addr) (m : Nat) (news : List Value) (hs : a.eval s = v) (hx : a.eval x = .slice (some ad) m m) (hnews : ∀ j u, news[j]? = some u → W.cell? (ad.add j) = some u) (hR : Reps (RI F W) 1 M news) (hm : M.length = m) (h1 : ∀ u ∈ news, u.oneCell' = true)
    (HO : LT n0 F W v L) (hbase : n0 ≤ W.heap.size) (hl : L.length + m ≤ 1000000000)
    (h : ∀ v1 w1, LT n0 F w1 v1 (L ++ M) → W.grownBy w1 v.ownBlock → OwnStep W.heap.size v v1 → Kc (a.put o.dst v1) w1) : if Region.wanted o (yielded ops a.tmps) = true then Oper.wp Tryd.prog o a W Kc Q else Kc (a.put o.dst undef) W := by
  rw [if_pos hw]
  obtain ⟨v1, w1, hr, k1, k2, k3⟩ := run_append_rows (ty := o.type) hnews hR hm h1 HO hbase hl
  unfold Oper.wp execOp
  simp only [ho, resolve, invoke, builtin, Sem.run_bind, Sem.run_pure, Result.andThen_ok, List.map_toArray, List.map_cons, List.map_nil, hs, hx, hr]
  exact h v1 w1 k1 k2 k3
/-- The rows that a literal lays. -/
theorem news_at {W : World} {b : Nat} {cs : List Value} (h : W.heap[b]? = some (.cells cs.toArray 54 (0, 0))) : ∀ j u, cs[j]? = some u → W.cell? ((⟨b, 0, none⟩ : Addr).add j) = some u := by
  intro j u hj
  have hz : (⟨b, 0, none⟩ : Addr).add j = ⟨b, j, none⟩ := by
    unfold Addr.add
    split
    · rename_i h0; subst h0; rfl
    · simp
  rw [hz]
  simp [World.cell?, h, hj]
/-- The end: what was appended is stored. -/
theorem lay_end {w0 W W1 w3 : World} {bO n : Nat} {F F1 : Nat → Prop} {v0 v1 v3 : Value} {L M : List (List Int)} {r : LS × Int} (hr : r = (⟨n, L ++ M⟩, (n : Int))) (hu : Upd (EvB bO v0) W W1) (hs : OwnStep W.heap.size v0 v1) (hO : OutAt W1 bO n v1) (hL1 : LT w0.heap.size F1 W1 v1 L)
    (hb : W1.heap.size ≤ w3.heap.size) (hg : Upd (Ev v1) W1 w3) (hs3 : OwnStep W1.heap.size v1 v3) (hL : LT w0.heap.size (fun i => F i ∨ W.heap.size ≤ i) w3 v3 (L ++ M)) :
    LayOut w0 bO F r v0 W (.returned (.int .i64 n)) (w3.setCell ⟨bO, 1, none⟩ v3) := by
  subst hr
  have hO3 : OutAt w3 bO n v1 := (hg.block bO (blk_lt hO) (fun e => hL1.ne hO (by decide) e)).trans hO
  have hU : Upd (fun i => i = bO) w3 (w3.setCell ⟨bO, 1, none⟩ v3) := (Upd.refl (fun i => i = bO) _).setCell (p := ⟨bO, 1, none⟩) rfl _
  have hL4 := hL.upd hU (fun i hi e => by subst e; exact hL.ne hO3 (by decide) hi) (fun i cur hf hc e => by subst e; have := hc.symm.trans hO3; injection this with this; injection this with _ this; exact absurd this (by decide))
  obtain ⟨A, c, rfl, _, _⟩ := hL.reads
  exact ⟨rfl, A, c, blk_put (cs := #[.int .i64 n, v1]) hO3 1 _ rfl, hL4, ((hu.ownB hs ((hg.mono (fun i _ e => .inr e)))).setCell (p := ⟨bO, 1, none⟩) (.inl rfl) _), hs.trans hs3 hu.size⟩

theorem len_two {l : List Int} (h : l.length = 2) : ∃ a b, l = [a, b] := by
  match l, h with
  | [a, b], _ => exact ⟨a, b, rfl⟩
theorem wrap64_id {n : Int} (h1 : -9223372036854775808 ≤ n) (h2 : n < 9223372036854775808) : wrap64 n = n := by unfold wrap64; omega
theorem blk_newAt (W : World) (o : Obj) (k : Nat) (hk : k = W.heap.size) : (W.alloc o).heap[k]? = some o := by subst hk; exact blk_new W o
theorem own_cells {W : World} {N n cx : Nat} {Ax : Option Addr} {xs : List Int} (h : W.ownsRow N 3 1 (.slice Ax n cx) n (nums .i64 xs)) (hn : 0 < n) : ∃ g, Ax = some ⟨g, 0, none⟩ ∧ g < W.heap.size ∧ ∀ (j : Nat) (y : Int), xs[j]? = some y → W.cell? ⟨g, j, none⟩ = some (.int .i64 y) := by
  obtain ⟨h1, h2⟩ := h
  rcases h2 with ⟨he, h0⟩ | ⟨g, cap, cur, he, hb, hh, hn2, hm, hs, ht⟩
  · omega
  · injection he with e1 e2 e3
    refine ⟨g, e1, blk_lt hh, fun j y hj => ?_⟩
    have hjn : j < n := by
      have := (List.getElem?_eq_some_iff.1 hj).1
      rw [nums_length] at h1; omega
    have h5 : (nums .i64 xs)[j]? = some (.int .i64 y) := by simp [nums, hj]
    rw [← ht, List.getElem?_take, if_pos (by omega)] at h5
    simpa [World.cell?, hh] using h5
theorem layL_val (b : Bool) (at_ us : List S41) (st : LS) (k : Nat) (h1 : at_.length ≤ 1000000) (h2 : st.n + sumTo csize us k ≤ 1000000) : ∀ y ∈ (layL b at_ (us.take k) st []).2, 0 ≤ y ∧ y ≤ 1000001 := by
  induction k with
  | zero => rw [List.take_zero, layL]; intro y hy; cases hy
  | succ k ih =>
    rcases Nat.lt_or_ge k us.length with h | h
    · have hx : us[k]? = some us[k] := List.getElem?_eq_getElem h
      rw [sumTo_step csize hx] at h2
      rw [layL_take b at_ hx]
      intro y hy
      rcases List.mem_append.1 hy with hy | hy
      · exact ih (by omega) y hy
      · rw [List.mem_singleton.1 hy]
        have := layL_nl b at_ us st k
        exact layC_val b at_ us[k] _ h1 (by omega)
    · have e : us.take (k + 1) = us.take k := by rw [List.take_of_length_le h, List.take_of_length_le (by omega)]
      have e2 : sumTo csize us (k + 1) = sumTo csize us k := by unfold sumTo; rw [e]
      rw [e2] at h2; rw [e]; exact ih h2

/-- One literal more. -/
theorem lay_next {n0 N M bO n k kx : Nat} {F : Nat → Prop} {w2 w3 : World} {v vx v3 : Value} {L : List (List Int)} {xs : List Value} (hx : w2.ownsRow N 3 1 vx k xs) (hxM : ∀ i, Ev vx i → i < M) (hNM : N ≤ M) (hM : M ≤ w2.heap.size)
    (hL : LT n0 (fun i => ((F i ∨ N ≤ i) ∧ ¬ Ev vx i) ∨ M ≤ i) w2 v L) (hO : OutAt w2 bO n v) (hg : w2.grownBy w3 vx.ownBlock) (hat : v3.ownBlock = vx.ownBlock ∨ ∃ b, v3.ownBlock = some b ∧ w2.heap.size ≤ b) :
    LT n0 (fun i => (F i ∨ N ≤ i) ∧ ¬ Ev v3 i) w3 v L ∧ OutAt w3 bO n v := by
  refine ⟨hL.move (fun i hi => hg.block i (hL.lt i hi) (fun e => ?_)) (fun i cur hf hc => ?_), ?_⟩
  · obtain ⟨_, ho, _⟩ := hL
    exact own_types ho hx (by decide) i hi e.symm
  · have hne : ¬ Ev vx i := by
      rcases hf with hf | hf
      · exact hf.2
      · intro e; have := hxM i e; omega
    refine ⟨hg.block i (blk_lt hc) (fun e => hne e.symm), ?_, ?_⟩
    · rcases hf with hf | hf
      · exact hf.1
      · exact .inr (by omega)
    · intro e
      rcases hat with hat | ⟨b, hb, hle⟩
      · exact hne (hat.symm.trans e)
      · have : b = i := by rw [show v3.ownBlock = some i from e] at hb; injection hb with hb; exact hb.symm
        have := blk_lt hc
        omega
  · exact (hg.block bO (blk_lt hO) (fun e => own_ne hx hO (by decide) e)).trans hO

end Go.Proofs.YtbfgoopomfenjaaDoor
