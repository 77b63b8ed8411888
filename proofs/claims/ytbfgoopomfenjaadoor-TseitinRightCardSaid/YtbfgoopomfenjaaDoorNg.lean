import Derived.Test.YtbfgoopomfenjaaDoorNd
import Derived.Test.YtbfgoopomfenjaaDoorNe
import Derived.Test.YtbfgoopomfenjaaDoorNb
namespace Go.Proofs.YtbfgoopomfenjaaDoor
open Go.RowKit Go.Proofs.YtbfgoopomfenjaaDoorW.PrintWords Go.Proofs.YtbfgoopomfenjaaDoorW.PrintLast Go.Proofs.YtbfgoopomfenjaaDoor.PTseitinValues
set_option linter.unusedVariables false
set_option linter.unusedSimpArgs false
attribute [local go_sem] World.cell?_alloc_lt
attribute [local go_sem] run_store_fn


set_option maxRecDepth 100000 in
set_option maxHeartbeats 4000000 in
/-- Literal. -/
theorem ts_Literal (w0 : World) (at_ : List S41) (t : S41) (A : Option Addr) (c : Nat) (B : Option Addr) (d : Nat) (Aa : Option Addr) (ca : Nat) (W : World) (hP : P41 w0 t A c B d) (hB : Below w0.heap.size w0 W) (hRA : RA w0 W Aa at_) (hal : at_.length ≤ 1000000) :
    Calls Tryd.prog 21 #[.slice Aa at_.length ca, v41 t A c B d] W fun e W' => e = .returned (.tuple #[.int .i64 (litB at_ t).1, .bool (litB at_ t).2]) ∧ Below W.heap.size W W' := by
  have hBW : Below W.heap.size W (W.alloc (.cells (c41 t A c B d) 41)) := below_alloc (Below.refl _ _) _
  have X : T41 (W.alloc (.cells (c41 t A c B d) 41)) ⟨W.heap.size, 0, none⟩ t A c B d := T41.mk_box (w := W) (blk_new _ _) (hP.below hB) hBW
  have hlb := hP.C2.2.1
  have HP := Aside0.mk hP
  have HBb := Aside0.mk (hB.trans (hBW.mono hB.size))
  have HRA := Aside0.mk (hRA.below hBW)
  have HBW := Aside0.mk hBW
  clear hBW hP hB hRA
  have hpo := posn_le at_ t
  generalize hpe : posn at_ t = p at *
  by_cases hp : 0 ≤ p
  · have HR : Aside0 (litB at_ t = (p + 1, true)) := ⟨by unfold litB; rw [hpe, if_pos hp]⟩
    have hp1 : decide (0 ≤ p) = true := decide_eq_true (by omega)
    go_enter Tryd.func21, Tryd.ntmps21
    go_upto_region 1 with fail
    generalize hW : W.alloc (.cells (c41 t A c B d) 41) = W0 at *
    clear hW
    obtain ⟨k0, k1, k2, k3, k4, kl0, kln⟩ := X.box
    go_wp2_with (first | (go_at_call 31; refine (ts_placeR w0 at_ t Aa ca _ _ _ _ _ HBb.out HRA.out X.P hal).mono ?_; rintro e w1 ⟨rfl, hb⟩; have X1 := X.below hb; obtain ⟨m0, m1, m2, m3, m4, ml0, mln⟩ := X1.box; have HB1 := Aside0.mk (below_step HBW.out hb); have HBb1 := Aside0.mk (HBb.out.trans (hb.mono HBb.out.size)); have HRA1 := Aside0.mk (HRA.out.below hb); clear hb; rw [hpe]))
    refine bodyPost_ret (v := .tuple #[.int .i64 (litB at_ t).1, .bool (litB at_ t).2]) (by rw [HR.out]; simp [results, Tryd.results21, go_sem]; (try omega)) rfl ⟨rfl, HB1.out⟩
  · have hp1 : decide (0 ≤ p) = false := decide_eq_false (by omega)
    by_cases h6 : t.f0 = 6
    · have h6b : (t.f0 == 6) = true := by simpa using h6
      by_cases h1 : t.f4.length = 1
      · have h1b : ((t.f4.length : Int) == 1) = true := by rw [h1]; rfl
        have h1c : (t.f4.length == 1) = true := by rw [h1]; rfl
        obtain ⟨x, ad, A3, c3, B3, d3, hx, rfl, Z0⟩ := at41 HP.out.C2 0 (by omega)
        have hxe : t.f4.headD t = x := by
          obtain ⟨y, hy⟩ := List.length_eq_one_iff.1 h1
          rw [hy] at hx ⊢
          simpa using hx
        have HZ := Aside0.mk Z0.at0
        have hqo := posn_le at_ x
        generalize hqe : posn at_ x = q at *
        have HQ : Aside0 (∀ V, Below w0.heap.size w0 V → RA w0 V Aa at_ → Calls Tryd.prog 31 #[.slice Aa at_.length ca, v41 x A3 c3 B3 d3] V fun e w' => e = .returned (.int .i64 (q)) ∧ Below V.heap.size V w') := ⟨fun V h h2 => by rw [← hqe]; exact ts_placeR w0 at_ x Aa ca A3 c3 B3 d3 V h h2 (Z0.P.below h) hal⟩
        have H1 := Aside0.mk h1
        clear hx Z0
        by_cases hq : 0 ≤ q
        · have HR : Aside0 (litB at_ t = (-q - 1, true)) := ⟨by unfold litB; rw [hpe, if_neg hp, hxe, hqe, if_pos ⟨h6, h1, hq⟩]⟩
          have hq1 : decide (0 ≤ q) = true := decide_eq_true (by omega)
          clear h1 h1b h1c h6
          go_enter Tryd.func21, Tryd.ntmps21
          go_upto_region 1 with fail
          generalize hW : W.alloc (.cells (c41 t A c (some ad) d) 41) = W0 at *
          clear hW hxe
          try clear hlb
          have hlb : t.f4.length ≤ 9223372036854775807 := by have := H1.out; omega
          obtain ⟨k0, k1, k2, k3, k4, kl0, kln⟩ := X.box
          go_upto_region 2 with (first | (go_at_call 31; refine (ts_placeR w0 at_ t Aa ca _ _ _ _ _ HBb.out HRA.out X.P hal).mono ?_; rintro e w1 ⟨rfl, hb⟩; have X1 := X.below hb; obtain ⟨m0, m1, m2, m3, m4, ml0, mln⟩ := X1.box; have HB1 := Aside0.mk (below_step HBW.out hb); have HBb1 := Aside0.mk (HBb.out.trans (hb.mono HBb.out.size)); have HRA1 := Aside0.mk (HRA.out.below hb); clear hb; rw [hpe]))
          have Zw := HZ.out.below HBb1.out
          obtain ⟨z0, z1, z2, z3, z4, zl0, zln⟩ := Zw.cells
          rw [H1.out] at m4
          clear k0 k1 k2 k3 k4 kl0 kln
          go_wp2_with (first | (go_at_call 31; refine (HQ.out _ HBb1.out HRA1.out).mono ?_; rintro e w2 ⟨rfl, hb⟩; have HB2 := Aside0.mk (below_step HB1.out hb); clear hb))
          refine bodyPost_ret (v := .tuple #[.int .i64 (litB at_ t).1, .bool (litB at_ t).2]) (by rw [HR.out]; simp [results, Tryd.results21, go_sem]; (try omega)) rfl ⟨rfl, HB2.out⟩
        · have HR : Aside0 (litB at_ t = (0, false)) := ⟨by unfold litB; rw [hpe, if_neg hp, hxe, hqe, if_neg (fun h => hq h.2.2)]⟩
          have hq1 : decide (0 ≤ q) = false := decide_eq_false (by omega)
          clear h1 h1b h1c h6
          go_enter Tryd.func21, Tryd.ntmps21
          go_upto_region 1 with fail
          generalize hW : W.alloc (.cells (c41 t A c (some ad) d) 41) = W0 at *
          clear hW hxe
          try clear hlb
          have hlb : t.f4.length ≤ 9223372036854775807 := by have := H1.out; omega
          obtain ⟨k0, k1, k2, k3, k4, kl0, kln⟩ := X.box
          go_upto_region 2 with (first | (go_at_call 31; refine (ts_placeR w0 at_ t Aa ca _ _ _ _ _ HBb.out HRA.out X.P hal).mono ?_; rintro e w1 ⟨rfl, hb⟩; have X1 := X.below hb; obtain ⟨m0, m1, m2, m3, m4, ml0, mln⟩ := X1.box; have HB1 := Aside0.mk (below_step HBW.out hb); have HBb1 := Aside0.mk (HBb.out.trans (hb.mono HBb.out.size)); have HRA1 := Aside0.mk (HRA.out.below hb); clear hb; rw [hpe]))
          have Zw := HZ.out.below HBb1.out
          obtain ⟨z0, z1, z2, z3, z4, zl0, zln⟩ := Zw.cells
          rw [H1.out] at m4
          clear k0 k1 k2 k3 k4 kl0 kln
          go_wp2_with (first | (go_at_call 31; refine (HQ.out _ HBb1.out HRA1.out).mono ?_; rintro e w2 ⟨rfl, hb⟩; have HB2 := Aside0.mk (below_step HB1.out hb); clear hb))
          refine bodyPost_ret (v := .tuple #[.int .i64 (litB at_ t).1, .bool (litB at_ t).2]) (by rw [HR.out]; simp [results, Tryd.results21, go_sem]; (try omega)) rfl ⟨rfl, HB2.out⟩
      · have h1b : ((t.f4.length : Int) == 1) = false := by rw [beq_eq_false_iff_ne]; omega
        have h1c : (t.f4.length == 1) = false := by rw [beq_eq_false_iff_ne]; omega
        have HR : Aside0 (litB at_ t = (0, false)) := ⟨by unfold litB; rw [hpe, if_neg hp, if_neg (fun h => h1 h.2.1)]⟩
        clear h6 h1
        go_enter Tryd.func21, Tryd.ntmps21
        go_upto_region 1 with fail
        generalize hW : W.alloc (.cells (c41 t A c B d) 41) = W0 at *
        clear hW
        obtain ⟨k0, k1, k2, k3, k4, kl0, kln⟩ := X.box
        go_wp2_with (first | (go_at_call 31; refine (ts_placeR w0 at_ t Aa ca _ _ _ _ _ HBb.out HRA.out X.P hal).mono ?_; rintro e w1 ⟨rfl, hb⟩; have X1 := X.below hb; obtain ⟨m0, m1, m2, m3, m4, ml0, mln⟩ := X1.box; have HB1 := Aside0.mk (below_step HBW.out hb); have HBb1 := Aside0.mk (HBb.out.trans (hb.mono HBb.out.size)); have HRA1 := Aside0.mk (HRA.out.below hb); clear hb; rw [hpe]))
        refine bodyPost_ret (v := .tuple #[.int .i64 (litB at_ t).1, .bool (litB at_ t).2]) (by rw [HR.out]; simp [results, Tryd.results21, go_sem]; (try omega)) rfl ⟨rfl, HB1.out⟩
    · have h6b : (t.f0 == 6) = false := by simpa using h6
      have HR : Aside0 (litB at_ t = (0, false)) := ⟨by unfold litB; rw [hpe, if_neg hp, if_neg (fun h => h6 h.1)]⟩
      clear h6
      go_enter Tryd.func21, Tryd.ntmps21
      go_upto_region 1 with fail
      generalize hW : W.alloc (.cells (c41 t A c B d) 41) = W0 at *
      clear hW
      obtain ⟨k0, k1, k2, k3, k4, kl0, kln⟩ := X.box
      go_wp2_with (first | (go_at_call 31; refine (ts_placeR w0 at_ t Aa ca _ _ _ _ _ HBb.out HRA.out X.P hal).mono ?_; rintro e w1 ⟨rfl, hb⟩; have X1 := X.below hb; obtain ⟨m0, m1, m2, m3, m4, ml0, mln⟩ := X1.box; have HB1 := Aside0.mk (below_step HBW.out hb); have HBb1 := Aside0.mk (HBb.out.trans (hb.mono HBb.out.size)); have HRA1 := Aside0.mk (HRA.out.below hb); clear hb; rw [hpe]))
      refine bodyPost_ret (v := .tuple #[.int .i64 (litB at_ t).1, .bool (litB at_ t).2]) (by rw [HR.out]; simp [results, Tryd.results21, go_sem]; (try omega)) rfl ⟨rfl, HB1.out⟩

end Go.Proofs.YtbfgoopomfenjaaDoor
namespace Go.Proofs.YtbfgoopomfenjaaDoor
open Go.RowKit Go.Proofs.YtbfgoopomfenjaaDoorW.PrintWords Go.Proofs.YtbfgoopomfenjaaDoorW.PrintLast Go.Proofs.YtbfgoopomfenjaaDoor.PTseitinValues
set_option linter.unusedVariables false
set_option linter.unusedSimpArgs false
attribute [local go_sem] World.cell?_alloc_lt
attribute [local go_sem] run_store_fn

theorem topR_len (at_ cs : List S41) : ∀ (st st' : LS), st.l.length ≤ 4096 → topR at_ cs st = some st' → st'.l.length ≤ 4096 := by
  induction cs with
  | nil => intro st st' h e; rw [topR] at e; injection e with e; rw [← e]; exact h
  | cons c cs ih =>
    intro st st' h e
    rw [topR] at e
    split at e
    · cases e
    · rename_i hn
      exact ih _ st' (by show ((layC false at_ c st).1.l ++ [[(layC false at_ c st).2]]).length ≤ 4096; omega) e
theorem ofR_many {cs : List S41} (h : (ofR cs).e = 0) : (ofR cs).l.length ≤ 4096 := by
  obtain ⟨st, e1, e2, e3, e4⟩ := ofR_top h
  rw [e3]
  exact topR_len _ _ _ _ (by simp) e1
theorem ofR_bad {cs : List S41} (h : (ofR cs).e ≠ 0) : (ofR cs).n = 0 ∧ (ofR cs).l = [] ∧ (ofR cs).at_ = [] := by
  unfold ofR at h ⊢
  split
  · exact ⟨rfl, rfl, rfl⟩
  · rename_i h1
    rw [if_neg h1] at h
    generalize topR (atomsL cs []) cs ⟨(atomsL cs []).length, []⟩ = o at h ⊢
    cases o with
    | none => exact ⟨rfl, rfl, rfl⟩
    | some st =>
      have e : ofEnd (atomsL cs []) (some st) = if 1024 < st.n then tooLong else ⟨st.n, st.l, atomsL cs [], 0⟩ := rfl
      rw [e] at h ⊢
      by_cases h2 : 1024 < st.n
      · rw [if_pos h2]; exact ⟨rfl, rfl, rfl⟩
      · rw [if_neg h2] at h; exact absurd rfl h

set_option maxRecDepth 100000 in
set_option maxHeartbeats 2000000 in
/-- lit.Right, of a clause that is right. -/
theorem lit_right (xs : List Int) (n : Nat) (A : Option Addr) (c : Nat) (W : World) (hn : n ≤ 1024) (hx : ClOK n xs) (hA : kI.C W A xs.length xs) :
    Calls Tryd.prog 48 #[.slice A xs.length c, .int .i64 (n : Int)] W fun e W' => e = .returned (.int .i64 0) ∧ Below W.heap.size W W' := by
  have hla := hA.2.1
  have hl3 := hx.1
  have hd1 : decide ((64 : Int) < (xs.length : Int)) = false := decide_eq_false (by omega)
  have hd2 : decide (64 < xs.length) = false := decide_eq_false (by omega)
  have HA := Aside0.mk hA
  have HX := Aside0.mk hx
  clear hA hx
  go_enter Tryd.func48, Tryd.ntmps48
  go_wp2_with fail
  go_loopw [12] (fun i wr => ∃ k : Nat, k ≤ xs.length ∧ i = .int .i64 k ∧ Aside0 (Below W.heap.size W wr)) (fun i _ => xs.length - (intOf i).toNat)
  case atStart => exact ⟨0, Nat.zero_le _, rfl, ⟨Below.refl _ _⟩⟩
  case round =>
    obtain ⟨k, hk, rfl, HBr⟩ := hrel
    by_cases hlt : k < xs.length
    · have hltb : decide (k < xs.length) = true := decide_eq_true hlt
      obtain ⟨x, ad, hx, rfl, z0, zl⟩ := atI (Kd.C_below HA.out HBr.out) k hlt
      have hxo := HX.out.2 x (List.mem_of_getElem? hx)
      have HXO : Aside0 (LitOK x) := ⟨by unfold LitOK; omega⟩
      have hm : x.natAbs ≤ n := by omega
      clear hx hxo
      have hq1 := Aside0.mk (fun V => lit_is x HXO.out V)
      have hq2 := Aside0.mk (fun V => lit_variable x HXO.out V)
      generalize x.natAbs = m at *
      have hd3 : decide ((n : Int) < (m : Int)) = false := decide_eq_false (by omega)
      have hd4 : decide (n < m) = false := decide_eq_false (by omega)
      go_wp2_with (first
        | (go_at_call 71; refine (hq1.out _).mono ?_; rintro e w1 ⟨rfl, rfl⟩)
        | (go_at_call 72; refine (hq2.out _).mono ?_; rintro e w1 ⟨rfl, rfl⟩))
      refine ⟨⟨k + 1, by omega, by go_num, HBr⟩, ?_⟩
      simp [intOf]; omega
    · have hltb : decide (k < xs.length) = false := decide_eq_false hlt
      go_wp2_with fail
      go_ret
      exact ⟨rfl, HBr.out⟩
set_option maxRecDepth 100000 in
set_option maxHeartbeats 2000000 in
/-- cnf.Right, of a set that is right. -/
theorem cnf_right (n : Nat) (L : List (List Int)) (A : Option Addr) (c : Nat) (W : World) (hn : n ≤ 1024) (hL : L.length ≤ 4096) (hx : ∀ cl ∈ L, ClOK n cl) (hA : kL.C W A L.length L) :
    Calls Tryd.prog 24 #[.agg #[.int .i64 (n : Int), .slice A L.length c]] W fun e W' => e = .returned (.tuple #[.int .i64 0, .int .i64 0]) ∧ Below W.heap.size W W' := by
  have hla := hA.2.1
  have hd1 : decide ((n : Int) < 0) = false := decide_eq_false (by omega)
  have hd2 : decide ((1024 : Int) < (n : Int)) = false := decide_eq_false (by omega)
  have hd3 : decide (1024 < n) = false := decide_eq_false (by omega)
  have hd4 : decide ((4096 : Int) < (L.length : Int)) = false := decide_eq_false (by omega)
  have hd5 : decide (4096 < L.length) = false := decide_eq_false (by omega)
  have hBW : Below W.heap.size W (W.alloc (.cells #[.int .i64 (n : Int), .slice A L.length c] 27)) := below_alloc (Below.refl _ _) _
  have X0 : (W.alloc (.cells #[.int .i64 (n : Int), .slice A L.length c] 27)).heap[W.heap.size]? = some (.cells #[.int .i64 (n : Int), .slice A L.length c] 27 (0, 0)) := blk_new _ _
  have HX0 := Aside0.mk X0
  have HA := Aside0.mk (Kd.C_below hA hBW)
  have HX := Aside0.mk hx
  have HBW := Aside0.mk hBW
  clear hA hx hBW X0
  go_enter Tryd.func24, Tryd.ntmps24
  go_upto_region 1 with fail
  generalize hW : W.alloc (.cells #[.int .i64 (n : Int), .slice A L.length c] 27) = W0 at *
  clear hW
  have p0 := blk_cell HX0.out 0
  have p1 := blk_cell HX0.out 1
  have pl := blk_lt HX0.out
  go_wp2_with fail
  go_loopw [22] (fun i wr => ∃ k : Nat, k ≤ L.length ∧ i = .int .i64 k ∧ Aside0 (Below W0.heap.size W0 wr)) (fun i _ => L.length - (intOf i).toNat)
  case atStart => exact ⟨0, Nat.zero_le _, rfl, ⟨Below.refl _ _⟩⟩
  case round =>
    obtain ⟨k, hk, rfl, HBr⟩ := hrel
    have Xr := blk_below HX0.out HBr.out
    have q0 := blk_cell Xr 0
    have q1 := blk_cell Xr 1
    have ql := blk_lt Xr
    clear Xr p0 p1 pl
    by_cases hlt : k < L.length
    · have hltb : decide (k < L.length) = true := decide_eq_true hlt
      obtain ⟨x, ad, B3, d3, hx, rfl, z0, zle, zC, zl⟩ := atL (Kd.C_below HA.out HBr.out) k hlt
      have HQ := Aside0.mk (lit_right x n B3 d3 wr hn (HX.out x (List.mem_of_getElem? hx)) zC)
      clear hx zC
      go_wp2_with (first | (go_at_call 48; refine HQ.out.mono ?_; rintro e w1 ⟨rfl, hb⟩; have HB1 := Aside0.mk (below_step HBr.out hb); clear hb))
      refine ⟨⟨k + 1, by omega, by go_num, HB1⟩, ?_⟩
      simp [intOf]; omega
    · have hltb : decide (k < L.length) = false := decide_eq_false hlt
      go_wp2_with fail
      refine bodyPost_ret (v := .tuple #[.int .i64 0, .int .i64 0]) (by simp [results, Tryd.results24, go_sem]) rfl ?_
      exact ⟨rfl, below_step HBW.out HBr.out⟩
end Go.Proofs.YtbfgoopomfenjaaDoor
namespace Go.Proofs.YtbfgoopomfenjaaDoor
open Go.RowKit Go.Proofs.YtbfgoopomfenjaaDoorW.PrintWords Go.Proofs.YtbfgoopomfenjaaDoorW.PrintLast Go.Proofs.YtbfgoopomfenjaaDoor.PTseitinValues
set_option linter.unusedVariables false
set_option linter.unusedSimpArgs false
attribute [local go_sem] World.cell?_alloc_lt
attribute [local go_sem] run_store_fn

/-- Claims put together by and, from the right. -/
def andF : List S41 → S41
  | [] => ⟨1, ⟨#[]⟩, ⟨#[]⟩, [], []⟩
  | [x] => x
  | x :: y :: r => ⟨7, ⟨#[]⟩, ⟨#[]⟩, [], [x, andF (y :: r)]⟩
/-- The rows of two that And laid, behind block b. -/
def Chain (W : World) (b : Nat) (w : World) : List S41 → Option Addr → Nat → Option Addr → Nat → Prop
  | [], _, _, _, _ => False
  | [x], A, c, B, d => P41 W x A c B d
  | x :: y :: r, A, c, B, d => ∃ nb A1 c1 B1 d1 A2 c2 B2 d2, A = none ∧ c = 0 ∧ B = some ⟨nb, 0, none⟩ ∧ d = 2 ∧ b < nb ∧
      w.heap[nb]? = some (.cells #[.int .i64 x.f0, .string x.f1, .string x.f2, .slice A1 x.f3.length c1, .slice B1 x.f4.length d1, .int .i64 (andF (y :: r)).f0, .string (andF (y :: r)).f1, .string (andF (y :: r)).f2, .slice A2 (andF (y :: r)).f3.length c2, .slice B2 (andF (y :: r)).f4.length d2] 41 (0, 0)) ∧
      P41 W x A1 c1 B1 d1 ∧ Chain W b w (y :: r) A2 c2 B2 d2
theorem Chain.upd {W : World} {b : Nat} {E : Nat → Prop} (hE : ∀ i, b < i → ¬ E i) {w w' : World} (hU : Upd E w w') : ∀ {l : List S41} {A : Option Addr} {c : Nat} {B : Option Addr} {d : Nat}, Chain W b w l A c B d → Chain W b w' l A c B d := by
  intro l
  induction l with
  | nil => intro A c B d h; exact h
  | cons x l ih =>
    intro A c B d h
    cases l with
    | nil => exact h
    | cons y r =>
      obtain ⟨nb, A1, c1, B1, d1, A2, c2, B2, d2, h1, h2, h3, h4, h5, h6, h7, h8⟩ := h
      exact ⟨nb, A1, c1, B1, d1, A2, c2, B2, d2, h1, h2, h3, h4, h5, (hU.block nb (blk_lt h6) (hE nb h5)).trans h6, h7, ih h8⟩
theorem two_claims {w : World} {nb : Nat} {x y : S41} {A1 : Option Addr} {c1 : Nat} {B1 : Option Addr} {d1 : Nat} {A2 : Option Addr} {c2 : Nat} {B2 : Option Addr} {d2 : Nat}
    (h : w.heap[nb]? = some (.cells #[.int .i64 x.f0, .string x.f1, .string x.f2, .slice A1 x.f3.length c1, .slice B1 x.f4.length d1, .int .i64 y.f0, .string y.f1, .string y.f2, .slice A2 y.f3.length c2, .slice B2 y.f4.length d2] 41 (0, 0)))
    (hx : P41 w x A1 c1 B1 d1) (hy : P41 w y A2 c2 B2 d2) : k41.C w (some ⟨nb, 0, none⟩) 2 [x, y] := by
  have hz : ∀ n, (⟨nb, 0, none⟩ : Addr).add n = ⟨nb, n, none⟩ := fun n => by
    unfold Addr.add
    split
    · rename_i h0; subst h0; rfl
    · simp
  refine ⟨rfl, by omega, fun _ => ⟨_, rfl, fun j p hj => ?_⟩⟩
  match j, hj with
  | 0, hj =>
    have : x = p := by simpa using hj
    subst this
    refine ⟨[.int .i64 x.f0, .string x.f1, .string x.f2, .slice A1 x.f3.length c1, .slice B1 x.f4.length d1], rfl, k41_mk _ x hx.le1 hx.C1 hx.le2 hx.C2, fun i u hi => ?_⟩
    rw [Nat.zero_mul, Nat.zero_add, hz, blk_cell h i]
    match i, hi with
    | 0, hi => exact hi
    | 1, hi => exact hi
    | 2, hi => exact hi
    | 3, hi => exact hi
    | 4, hi => exact hi
    | (n + 5), hi => cases hi
  | 1, hj =>
    have : y = p := by simpa using hj
    subst this
    refine ⟨[.int .i64 y.f0, .string y.f1, .string y.f2, .slice A2 y.f3.length c2, .slice B2 y.f4.length d2], rfl, k41_mk _ y hy.le1 hy.C1 hy.le2 hy.C2, fun i u hi => ?_⟩
    rw [hz, blk_cell h]
    match i, hi with
    | 0, hi => exact hi
    | 1, hi => exact hi
    | 2, hi => exact hi
    | 3, hi => exact hi
    | 4, hi => exact hi
    | (n + 5), hi => cases hi
  | (n + 2), hj => simp at hj
theorem Chain.P {W : World} {b : Nat} {w : World} (hb : Below W.heap.size W w) : ∀ {l : List S41} {A : Option Addr} {c : Nat} {B : Option Addr} {d : Nat}, Chain W b w l A c B d → P41 w (andF l) A c B d := by
  intro l
  induction l with
  | nil => intro A c B d h; exact h.elim
  | cons x l ih =>
    intro A c B d h
    cases l with
    | nil => exact P41.below h hb
    | cons y r =>
      obtain ⟨nb, A1, c1, B1, d1, A2, c2, B2, d2, h1, h2, h3, h4, h5, h6, h7, h8⟩ := h
      subst h1 h2 h3 h4
      exact ⟨Nat.le_refl 0, C_nil k82 w, Nat.le_refl 2, two_claims h6 (h7.below hb) (ih h8)⟩
theorem drop_cons {l : List S41} {j : Nat} {x : S41} (h : l[j]? = some x) : l.drop j = x :: l.drop (j + 1) := by
  obtain ⟨h1, rfl⟩ := List.getElem?_eq_some_iff.1 h
  exact List.drop_eq_getElem_cons h1
theorem Chain.cons {W : World} {b nb : Nat} {w : World} {y : S41} {l : List S41} (hne : l ≠ []) {A1 : Option Addr} {c1 : Nat} {B1 : Option Addr} {d1 : Nat} {A2 : Option Addr} {c2 : Nat} {B2 : Option Addr} {d2 : Nat} (hb : b < nb)
    (h : w.heap[nb]? = some (.cells #[.int .i64 y.f0, .string y.f1, .string y.f2, .slice A1 y.f3.length c1, .slice B1 y.f4.length d1, .int .i64 (andF l).f0, .string (andF l).f1, .string (andF l).f2, .slice A2 (andF l).f3.length c2, .slice B2 (andF l).f4.length d2] 41 (0, 0)))
    (hy : P41 W y A1 c1 B1 d1) (hc : Chain W b w l A2 c2 B2 d2) : Chain W b w (y :: l) none 0 (some ⟨nb, 0, none⟩) 2 := by
  cases l with
  | nil => exact absurd rfl hne
  | cons z r => exact ⟨nb, A1, c1, B1, d1, A2, c2, B2, d2, rfl, rfl, rfl, rfl, hb, h, hy, hc⟩
theorem andF_cons {y : S41} {l : List S41} (hne : l ≠ []) : andF (y :: l) = ⟨7, ⟨#[]⟩, ⟨#[]⟩, [], [y, andF l]⟩ := by
  cases l with
  | nil => exact absurd rfl hne
  | cons z r => rw [andF]

set_option maxRecDepth 100000 in
set_option maxHeartbeats 4000000 in
/-- claim.join, of one claim or more. -/
theorem join_ (w0 : World) (m : Nat) (l : List S41) (A : Option Addr) (c : Nat) (W : World) (hm : m + 1 = l.length) (hB : Below w0.heap.size w0 W) (hC : k41.C w0 A (m + 1) l) :
    Calls Tryd.prog 49 #[.int .i64 7, .int .i64 1, .slice A (m + 1) c] W fun e w' => ∃ A' c' B' d' b, e = .returned (v41 (andF l) A' c' B' d') ∧ W.heap.size ≤ b ∧ Chain w0 b w' l A' c' B' d' ∧ Below W.heap.size W w' := by
  have hla := hC.2.1
  have hz : (((m : Int) + 1) == 0) = false := by rw [beq_eq_false_iff_ne]; omega
  obtain ⟨x, ad, A3, c3, B3, d3, hx, rfl, Z0⟩ := at41 hC m (by omega)
  have hBW : Below W.heap.size W (W.alloc (.cells #[.int .i64 0, .string ⟨#[]⟩, .string ⟨#[]⟩, .slice none 0 0, .slice none 0 0] 41)) := below_alloc (Below.refl _ _) _
  have X6 : (W.alloc (.cells #[.int .i64 0, .string ⟨#[]⟩, .string ⟨#[]⟩, .slice none 0 0, .slice none 0 0] 41)).heap[W.heap.size]? = some (.cells #[.int .i64 0, .string ⟨#[]⟩, .string ⟨#[]⟩, .slice none 0 0, .slice none 0 0] 41 (0, 0)) := blk_new _ _
  have Z := (Z0.below hB).below hBW
  have HB := Aside0.mk hB
  obtain ⟨z0, z1, z2, z3, z4, zl0, zln⟩ := Z.cells
  have HC := Aside0.mk hC
  have HM := Aside0.mk hm
  have HBW := Aside0.mk hBW
  have HX6 := Aside0.mk X6
  have HZ0 := Aside0.mk Z0
  have HX := Aside0.mk hx
  clear hC hm hBW X6 Z0 hx Z hB
  go_enter Tryd.func49, Tryd.ntmps49
  go_wp2_with fail
  have HB1 : Aside0 (Below W.heap.size W ((W.alloc (.cells #[.int .i64 0, .string ⟨#[]⟩, .string ⟨#[]⟩, .slice none 0 0, .slice none 0 0] 41)).alloc (.cells #[.int .i64 x.f0, .string x.f1, .string x.f2, .slice A3 x.f3.length c3, .slice B3 x.f4.length d3] 41))) := ⟨HBW.out.alloc HBW.out.size _⟩
  have HX7 := Aside0.mk (blk_newAt (W.alloc (.cells #[.int .i64 0, .string ⟨#[]⟩, .string ⟨#[]⟩, .slice none 0 0, .slice none 0 0] 41)) (.cells #[.int .i64 x.f0, .string x.f1, .string x.f2, .slice A3 x.f3.length c3, .slice B3 x.f4.length d3] 41) (W.heap.size + 1) (by simp))
  have HX61 := Aside0.mk (blk_below HX6.out (below_alloc (Below.refl _ _) (.cells #[.int .i64 x.f0, .string x.f1, .string x.f2, .slice A3 x.f3.length c3, .slice B3 x.f4.length d3] 41)))
  clear z0 z1 z2 z3 z4 zl0 zln HX6 HBW
  generalize hW : (W.alloc (.cells #[.int .i64 0, .string ⟨#[]⟩, .string ⟨#[]⟩, .slice none 0 0, .slice none 0 0] 41)).alloc (.cells #[.int .i64 x.f0, .string x.f1, .string x.f2, .slice A3 x.f3.length c3, .slice B3 x.f4.length d3] 41) = W1 at *
  clear hW
  have hb7 : W.heap.size < W.heap.size + 1 := by omega
  have hb67 : W.heap.size ≠ W.heap.size + 1 := by omega
  have hb76 : W.heap.size + 1 ≠ W.heap.size := by omega
  generalize hgb : W.heap.size + 1 = b7 at *
  have hadl : ad.block < W.heap.size := by have h := HZ0.out.lt; have e : (ad.add (m * 5)).block = ad.block := (by unfold Addr.add; split <;> rfl); rw [e] at h; exact Nat.lt_of_lt_of_le h HB.out.size
  have had7 : ad.block ≠ b7 := by omega
  have h7ad : b7 ≠ ad.block := by omega
  clear hgb
  go_loopw [8] (fun i wr => ∃ (j : Nat) (A' : Option Addr) (c' : Nat) (B' : Option Addr) (d' : Nat), j ≤ m ∧ i = .int .i64 ((j : Int) - 1) ∧
    Aside0 (wr.heap[b7]? = some (.cells #[.int .i64 (andF (l.drop j)).f0, .string (andF (l.drop j)).f1, .string (andF (l.drop j)).f2, .slice A' (andF (l.drop j)).f3.length c', .slice B' (andF (l.drop j)).f4.length d'] 41 (0, 0))) ∧
    Aside0 (Chain w0 b7 wr (l.drop j) A' c' B' d') ∧ Aside0 (Upd (fun i => i = b7) W1 wr)) (fun i _ => (intOf i + 1).toNat)
  case atStart =>
    have hd : l.drop m = [x] := by rw [drop_cons HX.out, List.drop_eq_nil_of_le (by have := HM.out; omega)]
    refine ⟨m, A3, c3, B3, d3, Nat.le_refl _, by congr 1; omega, ⟨?_⟩, ⟨?_⟩, ⟨Upd.refl _ _⟩⟩
    · rw [hd]; exact HX7.out
    · rw [hd]; exact HZ0.out.P
  case round =>
    obtain ⟨j, A', c', B', d', hj, rfl, HXr, HCh, HU⟩ := hrel
    have HBr := Aside0.mk (HB1.out.trans (HU.out.below HB1.out.size (fun i e => by subst e; omega)))
    have HB0r := Aside0.mk (HB.out.trans (HBr.out.mono HB.out.size))
    have p0 := blk_cell HXr.out 0
    have p1 := blk_cell HXr.out 1
    have p2 := blk_cell HXr.out 2
    have p3 := blk_cell HXr.out 3
    have p4 := blk_cell HXr.out 4
    have f0 := blk_frozen HXr.out 0
    have f1 := blk_frozen HXr.out 1
    have f2 := blk_frozen HXr.out 2
    have f3 := blk_frozen HXr.out 3
    have f4 := blk_frozen HXr.out 4
    have pl := blk_lt HXr.out
    cases j with
    | zero =>
      have hj1 : ((0 : Nat) : Int) - 1 = -1 := by omega
      rw [hj1]
      have X6r := (HU.out.block W.heap.size (by have := HX61.out; exact blk_lt this) (by omega)).trans HX61.out
      have q0 := blk_cell X6r 0
      have q1 := blk_cell X6r 1
      have q2 := blk_cell X6r 2
      have q3 := blk_cell X6r 3
      have q4 := blk_cell X6r 4
      have g0 := blk_frozen X6r 0
      have g1 := blk_frozen X6r 1
      have g2 := blk_frozen X6r 2
      have g3 := blk_frozen X6r 3
      have g4 := blk_frozen X6r 4
      have ql := blk_lt X6r
      have HX6r := Aside0.mk X6r
      clear X6r
      rw [List.drop_zero] at *
      go_wp2_with fail
      refine bodyPost_ret (results_cell_row rfl _ _ W.heap.size 41 #[.int .i64 (andF l).f0, .string (andF l).f1, .string (andF l).f2, .slice A' (andF l).f3.length c', .slice B' (andF l).f4.length d'] (0, 0) _ rfl
        (blk_put (cs := #[.int .i64 (andF l).f0, .string (andF l).f1, .string (andF l).f2, .slice A' (andF l).f3.length c', .slice none 0 0]) (blk_put (cs := #[.int .i64 (andF l).f0, .string (andF l).f1, .string (andF l).f2, .slice none 0 0, .slice none 0 0]) (blk_put (cs := #[.int .i64 (andF l).f0, .string (andF l).f1, .string ⟨#[]⟩, .slice none 0 0, .slice none 0 0]) (blk_put (cs := #[.int .i64 (andF l).f0, .string ⟨#[]⟩, .string ⟨#[]⟩, .slice none 0 0, .slice none 0 0]) (blk_put HX6r.out 0 (.int .i64 (andF l).f0) rfl) 1 (.string (andF l).f1) rfl) 2 (.string (andF l).f2) rfl) 3 (.slice A' (andF l).f3.length c') rfl) 4 (.slice B' (andF l).f4.length d') rfl) Tryd.underlying41 rfl (by kernel_rfl)) rfl ?_
      have HU3 := (((((Upd.refl (fun i => i = W.heap.size) wr).setCell (p := ⟨W.heap.size, 0, none⟩) rfl (.int .i64 (andF l).f0)).setCell (p := ⟨W.heap.size, 1, none⟩) rfl (.string (andF l).f1)).setCell (p := ⟨W.heap.size, 2, none⟩) rfl (.string (andF l).f2)).setCell (p := ⟨W.heap.size, 3, none⟩) rfl (.slice A' (andF l).f3.length c')).setCell (p := ⟨W.heap.size, 4, none⟩) rfl (.slice B' (andF l).f4.length d')
      have HB9 := HBr.out.trans (HU3.below HBr.out.size (fun i e => by subst e; exact Nat.le_refl _))
      exact ⟨A', c', B', d', b7, rfl, by omega, HCh.out.upd (fun i hi e => by omega) HU3, HB9⟩
    | succ j =>
      have hj1 : ((j + 1 : Nat) : Int) - 1 = j := by omega
      rw [hj1]
      obtain ⟨y, ad', A4, c4, B4, d4, hy, he, Z0⟩ := at41 HC.out j (by omega)
      obtain rfl : ad = ad' := by injection he
      obtain ⟨z0, z1, z2, z3, z4, zl0, zln⟩ := (Z0.below HB0r.out).cells
      have hge : decide ((0 : Int) ≤ (j : Int)) = true := decide_eq_true (by omega)
      have hjm : j < m + 1 := by omega
      have HY := Aside0.mk hy
      have HZ := Aside0.mk Z0
      clear Z0 hy he
      have HNE : Aside0 (l.drop (j + 1) ≠ []) := ⟨fun h => by have h2 := congrArg List.length h; rw [List.length_drop, List.length_nil] at h2; have := HM.out; omega⟩
      generalize hF : andF (l.drop (j + 1)) = F at *
      have HF := Aside0.mk hF
      clear hF
      go_upto_region 7 with fail
      go_region
      all_goals go_wp2_with fail
      all_goals (
        have HU2 := Aside0.mk (((((((Upd.refl (fun i => i = b7) wr).setCell (p := ⟨b7, 0, none⟩) rfl (.int .i64 7)).setCell (p := ⟨b7, 1, none⟩) rfl (.string ⟨#[]⟩)).setCell (p := ⟨b7, 2, none⟩) rfl (.string ⟨#[]⟩)).setCell (p := ⟨b7, 3, none⟩) rfl (.slice none 0 0)).setCell (p := ⟨b7, 4, none⟩) rfl (.slice (some ⟨wr.heap.size, 0, none⟩) 2 2)).alloc (.cells #[.int .i64 y.f0, .string y.f1, .string y.f2, .slice A4 y.f3.length c4, .slice B4 y.f4.length d4, .int .i64 F.f0, .string F.f1, .string F.f2, .slice A' F.f3.length c', .slice B' F.f4.length d'] 41)).drew
        have HX8 := Aside0.mk (blk_put (cs := #[.int .i64 7, .string ⟨#[]⟩, .string ⟨#[]⟩, .slice none 0 0, .slice B' F.f4.length d']) (blk_put (cs := #[.int .i64 7, .string ⟨#[]⟩, .string ⟨#[]⟩, .slice A' F.f3.length c', .slice B' F.f4.length d']) (blk_put (cs := #[.int .i64 7, .string ⟨#[]⟩, .string F.f2, .slice A' F.f3.length c', .slice B' F.f4.length d']) (blk_put (cs := #[.int .i64 7, .string F.f1, .string F.f2, .slice A' F.f3.length c', .slice B' F.f4.length d']) (blk_put HXr.out 0 (.int .i64 7) rfl) 1 (.string ⟨#[]⟩) rfl) 2 (.string ⟨#[]⟩) rfl) 3 (.slice none 0 0) rfl) 4 (.slice (some ⟨wr.heap.size, 0, none⟩) 2 2) rfl)
        refine ⟨?_, by first | (simp [intOf]; done) | (simp [intOf]; omega)⟩
        refine ⟨j, none, 0, some ⟨wr.heap.size, 0, none⟩, 2, by omega, by go_num, ⟨?_⟩, ⟨?_⟩, ⟨HU.out.trans HU2.out⟩⟩
        · rw [drop_cons HY.out, andF_cons HNE.out]
          exact blk_drew (blk_below HX8.out (below_alloc (Below.refl _ _) _))
        · rw [drop_cons HY.out]
          refine Chain.cons HNE.out pl ?_ HZ.out.P (HCh.out.upd (fun i hi e => by omega) HU2.out)
          rw [HF.out]
          exact blk_drew (blk_newAt _ _ _ (by simp)))
end Go.Proofs.YtbfgoopomfenjaaDoor
namespace Go.Proofs.YtbfgoopomfenjaaDoor
open Go.RowKit Go.Proofs.YtbfgoopomfenjaaDoorW.PrintWords Go.Proofs.YtbfgoopomfenjaaDoorW.PrintLast Go.Proofs.YtbfgoopomfenjaaDoor.PTseitinValues
set_option linter.unusedVariables false
set_option linter.unusedSimpArgs false
attribute [local go_sem] World.cell?_alloc_lt
attribute [local go_sem] run_store_fn

set_option maxRecDepth 100000 in
set_option maxHeartbeats 4000000 in
/-- claim.And, of one claim or more. -/
theorem and_ (l : List S41) (A : Option Addr) (c : Nat) (W : World) (hne : l ≠ []) (hC : k41.C W A l.length l) :
    Calls Tryd.prog 25 #[.slice A l.length c] W fun e w' => ∃ A' c' B' d', e = .returned (v41 (andF l) A' c' B' d') ∧ P41 w' (andF l) A' c' B' d' ∧ Below W.heap.size W w' := by
  have hla := hC.2.1
  obtain ⟨m, hm⟩ : ∃ m, l.length = m + 1 := ⟨l.length - 1, by cases l with | nil => exact absurd rfl hne | cons x r => simp⟩
  rw [hm] at hC hla ⊢
  have hBW : Below W.heap.size W (W.alloc (.cells #[.int .i64 0, .string ⟨#[]⟩, .string ⟨#[]⟩, .slice none 0 0, .slice none 0 0] 41)) := below_alloc (Below.refl _ _) _
  have X6 : (W.alloc (.cells #[.int .i64 0, .string ⟨#[]⟩, .string ⟨#[]⟩, .slice none 0 0, .slice none 0 0] 41)).heap[W.heap.size]? = some (.cells #[.int .i64 0, .string ⟨#[]⟩, .string ⟨#[]⟩, .slice none 0 0, .slice none 0 0] 41 (0, 0)) := blk_new _ _
  have HQ := Aside0.mk (join_ W m l A c _ hm.symm hBW hC)
  have HSZ : Aside0 ((W.alloc (.cells #[.int .i64 0, .string ⟨#[]⟩, .string ⟨#[]⟩, .slice none 0 0, .slice none 0 0] 41)).heap.size = W.heap.size + 1) := ⟨by simp⟩
  have HBW := Aside0.mk hBW
  have HX6 := Aside0.mk X6
  clear hBW X6 hm hC hne
  go_enter Tryd.func25, Tryd.ntmps25
  go_upto_region 1 with fail
  generalize hW : W.alloc (.cells #[.int .i64 0, .string ⟨#[]⟩, .string ⟨#[]⟩, .slice none 0 0, .slice none 0 0] 41) = W0 at *
  clear hW
  go_wp2_with (first | (go_at_call 49; refine HQ.out.mono ?_; rintro e w1 ⟨A', c', B', d', b, rfl, hbl, hP, hb⟩; have HP := Aside0.mk hP; have HBL := Aside0.mk hbl; have HB1 := Aside0.mk hb; have X1 := blk_below HX6.out hb; have HX1 := Aside0.mk X1; have q0 := blk_cell X1 0; have q1 := blk_cell X1 1; have q2 := blk_cell X1 2; have q3 := blk_cell X1 3; have q4 := blk_cell X1 4; have g0 := blk_frozen X1 0; have g1 := blk_frozen X1 1; have g2 := blk_frozen X1 2; have g3 := blk_frozen X1 3; have g4 := blk_frozen X1 4; have ql := blk_lt X1; clear X1 hP hb hbl))
  refine bodyPost_ret (results_cell_row rfl _ _ W.heap.size 41 #[.int .i64 (andF l).f0, .string (andF l).f1, .string (andF l).f2, .slice A' (andF l).f3.length c', .slice B' (andF l).f4.length d'] (0, 0) _ rfl
    (blk_put (cs := #[.int .i64 (andF l).f0, .string (andF l).f1, .string (andF l).f2, .slice A' (andF l).f3.length c', .slice none 0 0]) (blk_put (cs := #[.int .i64 (andF l).f0, .string (andF l).f1, .string (andF l).f2, .slice none 0 0, .slice none 0 0]) (blk_put (cs := #[.int .i64 (andF l).f0, .string (andF l).f1, .string ⟨#[]⟩, .slice none 0 0, .slice none 0 0]) (blk_put (cs := #[.int .i64 (andF l).f0, .string ⟨#[]⟩, .string ⟨#[]⟩, .slice none 0 0, .slice none 0 0]) (blk_put HX1.out 0 (.int .i64 (andF l).f0) rfl) 1 (.string (andF l).f1) rfl) 2 (.string (andF l).f2) rfl) 3 (.slice A' (andF l).f3.length c') rfl) 4 (.slice B' (andF l).f4.length d') rfl) Tryd.underlying41 rfl (by kernel_rfl)) rfl ?_
  have HU3 := (((((Upd.refl (fun i => i = W.heap.size) w1).setCell (p := ⟨W.heap.size, 0, none⟩) rfl (.int .i64 (andF l).f0)).setCell (p := ⟨W.heap.size, 1, none⟩) rfl (.string (andF l).f1)).setCell (p := ⟨W.heap.size, 2, none⟩) rfl (.string (andF l).f2)).setCell (p := ⟨W.heap.size, 3, none⟩) rfl (.slice A' (andF l).f3.length c')).setCell (p := ⟨W.heap.size, 4, none⟩) rfl (.slice B' (andF l).f4.length d')
  have HB01 := below_step HBW.out HB1.out
  have HB9 := HB01.trans (HU3.below HB01.size (fun i e => by subst e; exact Nat.le_refl _))
  exact ⟨A', c', B', d', rfl, (HP.out.upd (fun i hi e => by have := HBL.out; have := HSZ.out; omega) HU3).P HB9, HB9⟩
end Go.Proofs.YtbfgoopomfenjaaDoor
namespace Go.Proofs.YtbfgoopomfenjaaDoor
open Go.RowKit Go.Proofs.YtbfgoopomfenjaaDoor.PTseitinValues
set_option linter.unusedVariables false
set_option linter.unusedSimpArgs false

/-- No two of a row are the same. -/
def Distinct (l : List S41) : Prop := ∀ (k : Nat) (x : S41), l[k]? = some x → (l.take k).any (fun y => same y x) = false
theorem distinct_C (q : Nat) : ∀ (t : S41) (l : List S41), csize t ≤ q → Distinct l → Distinct (atomsC t l) := by
  induction q with
  | zero => intro t l h; rw [csize_eq] at h; omega
  | succ q ih =>
    intro t l h hd
    have hL : ∀ us : List S41, csizeL us ≤ q → ∀ l, Distinct l → Distinct (atomsL us l) := by
      intro us
      induction us with
      | nil => intro _ l hd; rw [atomsL]; exact hd
      | cons x us ih2 =>
        intro hu l hd
        rw [csizeL] at hu
        rw [atomsL]
        exact ih2 (by omega) _ (ih x l (by omega) hd)
    rw [csize_eq] at h
    rw [atomsC_eq]
    split
    · exact hd
    · split
      · exact hL t.f4 (by omega) l hd
      · split
        · exact hd
        · rename_i h3
          have h3 : l.any (fun x => same x t) = false := by simpa using h3
          intro k x hx
          by_cases hk : k < l.length
          · rw [List.getElem?_append_left hk] at hx
            rw [List.take_append_of_le_length (by omega)]
            exact hd k x hx
          · rw [List.getElem?_append_right (by omega)] at hx
            obtain ⟨h4, h5⟩ := List.getElem?_eq_some_iff.1 hx
            have h4 : k - l.length < 1 := h4
            have hkl : k = l.length := by omega
            subst hkl
            have h5 : t = x := by simpa using h5
            subst h5
            rw [List.take_append_of_le_length (Nat.le_refl _), List.take_length]
            exact h3
theorem distinct_L (us l : List S41) (h : Distinct l) : Distinct (atomsL us l) := by
  induction us generalizing l with
  | nil => rw [atomsL]; exact h
  | cons x us ih => rw [atomsL]; exact ih _ (distinct_C _ x l (Nat.le_refl _) h)
theorem right_lits {cs : List S41} (h : (ofR cs).e = 0) {k : Nat} {x : S41} (hx : (ofR cs).at_[k]? = some x) : litB (ofR cs).at_ x = ((k : Int) + 1, true) := by
  have hd : Distinct (ofR cs).at_ := by
    rw [(ofR_ok h).1]
    exact distinct_L cs [] (fun k x hx => by simp at hx)
  have hp := posn_at hx (same_refl x) (hd k x hx)
  unfold litB
  rw [if_pos (by omega), hp]

theorem andF_size {l : List S41} (hne : l ≠ []) : csize (andF l) ≤ (l.map csize).sum + l.length := by
  induction l with
  | nil => exact absurd rfl hne
  | cons x l ih =>
    by_cases h : l = []
    · subst h; rw [andF]; simp
    · rw [andF_cons h, csize, sizeL, csizeL, csizeL, csizeL, List.map_cons, List.sum_cons, List.length_cons]
      have := ih h
      omega
theorem andF_leaves {l : List S41} (hne : l ≠ []) : leaves (andF l) = leavesL l := by
  induction l with
  | nil => exact absurd rfl hne
  | cons x l ih =>
    by_cases h : l = []
    · subst h; rw [andF, leavesL, leavesL, List.append_nil]
    · rw [andF_cons h, leaves, if_pos (by decide), leavesL, leavesL, leavesL, leavesL, ih h, List.append_nil]
theorem andF_tv (g : S41 → Bool) {l : List S41} (hne : l ≠ []) : tv g (andF l) = l.all (tv g) := by
  induction l with
  | nil => exact absurd rfl hne
  | cons x l ih =>
    by_cases h : l = []
    · subst h; rw [andF]; simp
    · rw [andF_cons h, tv, if_pos (by decide), tvL, tvL, tvL, ih h, List.all_cons]
      rfl
theorem right_law {cs : List S41} (h : (ofR cs).e = 0) (hne : cs ≠ []) {vs : List Bool} (hk : (ofR cs).at_.length ≤ vs.length) (hr : cright (andF cs) = 0) :
    holdsB (ofR cs).at_ vs (andF cs) = (cs.all (tv (lv (ofR cs).at_ vs)), true) := by
  have hl := ofR_lv h
  unfold holdsB
  rw [if_pos ⟨hr, hk, known_of (fun a ha => by
    rw [andF_leaves hne] at ha
    obtain ⟨x, hx, h2⟩ := leavesL_mem.1 ha
    exact (hl x hx a h2).1)⟩, andF_tv _ hne]
end Go.Proofs.YtbfgoopomfenjaaDoor
namespace Go.Proofs.YtbfgoopomfenjaaDoor
open Go.RowKit Go.Proofs.YtbfgoopomfenjaaDoorW.PrintWords Go.Proofs.YtbfgoopomfenjaaDoorW.PrintLast Go.Proofs.YtbfgoopomfenjaaDoor.PTseitinValues
set_option linter.unusedVariables false
set_option linter.unusedSimpArgs false
attribute [local go_sem] World.cell?_alloc_lt
attribute [local go_sem] run_store_fn

/-- A row of claims read from a later base. -/
theorem RA.base {w0 w1 W : World} {A : Option Addr} {l : List S41} (h : RA w0 W A l) (hb : Below w0.heap.size w0 w1) : RA w1 W A l :=
  ReadsRow.imp_ h (Below.refl _ _) (fun x cs hp => by
    obtain ⟨A', c', B', d', e, hP⟩ := hp
    exact ⟨A', c', B', d', e, hP.below hb⟩)

set_option maxRecDepth 100000 in
set_option maxHeartbeats 4000000 in
theorem law_right (l : List S41) (A : Option Addr) (c : Nat) (vs : List Bool) (Av : Option Addr) (cv : Nat) (W : World) (hc : l.length ≤ c) (hcv : vs.length ≤ cv) (hC : k41.C W A l.length l) (hVC : kB.C W Av vs.length vs) (hN : Needs W) :
    Calls Tryd.prog 8 #[.slice A l.length c, .slice Av vs.length cv] W fun e w' => e = .returned (.bool true) ∧ Below W.heap.size W w' := by
  have hvl : vs.length ≤ 9223372036854775807 := hVC.2.1
  have HC := Aside0.mk hC
  have HVC := Aside0.mk hVC
  have HN := Aside0.mk hN
  have HF := Aside0.mk (law_few l A c 150 W (by omega) (by omega) hc hC)
  have e200 : Int.toNat 150 = 150 := rfl
  rw [e200] at HF
  clear hC hVC hN e200
  cases hf : fewOf l 150 with
  | false =>
    rw [hf] at HF
    go_enter Tryd.func8, Tryd.ntmps8
    go_wp2_with (first
      | (go_at_call 9; refine HF.out.mono ?_; rintro e w1 ⟨rfl, hb⟩; have HB1 := Aside0.mk hb; clear hb)
      | (go_at_call 10; refine (law_alive _ (HN.out.below HB1.out)).mono ?_; rintro e w2 ⟨rfl, hb⟩; have HB2 := Aside0.mk (below_step HB1.out hb); clear hb))
    go_ret
    exact ⟨rfl, HB2.out⟩
  | true =>
    obtain ⟨hs, hsum⟩ := few_facts hf (by omega)
    have hl20 : l.length ≤ 20 := by
      unfold fewOf at hf
      rw [Bool.and_eq_true, decide_eq_true_eq] at hf
      exact hf.1
    rw [hf] at HF
    have HS : Aside0 (∀ x ∈ l, csize x ≤ 4096) := ⟨fun x hx => Nat.le_trans (hs x hx) (by omega)⟩
    clear hs hf
    by_cases hne : l = []
    · have hz : ((l.length : Int) == 0) = true := by rw [hne]; rfl
      clear hne
      go_enter Tryd.func8, Tryd.ntmps8
      go_wp2_with (first
        | (go_at_call 9; refine HF.out.mono ?_; rintro e w1 ⟨rfl, hb⟩; have HB1 := Aside0.mk hb; clear hb)
        | (go_at_call 10; refine (law_alive _ (HN.out.below HB1.out)).mono ?_; rintro e w2 ⟨rfl, hb⟩; have HB2 := Aside0.mk (below_step HB1.out hb); clear hb))
      go_ret
      exact ⟨rfl, HB2.out⟩
    · have hz : ((l.length : Int) == 0) = false := by
        rw [beq_eq_false_iff_ne]
        intro h
        exact hne (List.eq_nil_of_length_eq_zero (by omega))
      by_cases hv : 3000 < vs.length
      · have hv1 : decide ((3000 : Int) < (vs.length : Int)) = true := decide_eq_true (by omega)
        have hv2 : decide (3000 < vs.length) = true := decide_eq_true hv
        clear hne
        go_enter Tryd.func8, Tryd.ntmps8
        go_wp2_with (first
          | (go_at_call 9; refine HF.out.mono ?_; rintro e w1 ⟨rfl, hb⟩; have HB1 := Aside0.mk hb; clear hb)
          | (go_at_call 10; refine (law_alive _ (HN.out.below HB1.out)).mono ?_; rintro e w2 ⟨rfl, hb⟩; have HB2 := Aside0.mk (below_step HB1.out hb); clear hb))
        go_ret
        exact ⟨rfl, HB2.out⟩
      · have hv1 : decide ((3000 : Int) < (vs.length : Int)) = false := decide_eq_false (by omega)
        have hv2 : decide (3000 < vs.length) = false := decide_eq_false hv
        have HNE := Aside0.mk hne
        clear hne
        have HOF := Aside0.mk (fun V (hb : Below W.heap.size W V) => prog_Of W l A c V hb HC.out (HN.out.below hb) HS.out (by omega))
        have HCL := Aside0.mk (fun h => And.intro (@ofR_cl l h) (@ofR_many l h))
        have HBAD := Aside0.mk (fun h => @ofR_bad l h)
        have HLIT := Aside0.mk (fun h k x hx => @right_lits l h k x hx)
        have HHOL := Aside0.mk (fun h vs hk => @holds_of l h vs hk)
        have HAND := Aside0.mk (fun h vs hk hr => @right_law l h HNE.out vs hk hr)
        have HSZ : Aside0 (csize (andF l) ≤ 4096) := ⟨by have h := andF_size HNE.out; omega⟩
        generalize hr : ofR l = r at *
        clear hr
        by_cases he : r.e = 0
        · have heb : (r.e != 0) = false := by simpa using he
          have HLI := Aside0.mk (HLIT.out he)
          have HHO := Aside0.mk (HHOL.out he vs)
          have HAN := Aside0.mk (HAND.out he vs)
          have HCX := Aside0.mk (HCL.out he)
          have hn1 : decide ((r.n : Int) < (r.at_.length : Int)) = false := decide_eq_false (by have := HCX.out.1.2.1; omega)
          have hn2 : decide (r.n < r.at_.length) = false := decide_eq_false (by have := HCX.out.1.2.1; omega)
          have hal : r.at_.length ≤ 1024 := by have := HCX.out.1.2; omega
          clear he HBAD HLIT HHOL HAND HCL
          go_enter Tryd.func8, Tryd.ntmps8
          go_upto_region 4 with (first
            | (go_at_call 9; refine HF.out.mono ?_; rintro e w1 ⟨rfl, hb⟩; have HB1 := Aside0.mk hb; clear hb)
            | (go_at_call 11; refine (HOF.out _ HB1.out).mono ?_; rintro e w2 ⟨A1, c1, A2, c2, rfl, hle, hC2, hat, hb⟩; have HL2 := Aside0.mk hC2; have HAT2 := Aside0.mk hat; have HB2 := Aside0.mk (below_step HB1.out hb); clear hle hC2 hat hb))
          have hB3 : Below w2.heap.size w2 (w2.alloc (.cells #[.int .i64 r.n, .slice A1 r.l.length c1] 27)) := below_alloc (Below.refl _ _) _
          have X3 : (w2.alloc (.cells #[.int .i64 r.n, .slice A1 r.l.length c1] 27)).heap[w2.heap.size]? = some (.cells #[.int .i64 r.n, .slice A1 r.l.length c1] 27 (0, 0)) := blk_new _ _
          have HX3 := Aside0.mk X3
          have p0 := blk_cell X3 0
          have p1 := blk_cell X3 1
          have pl := blk_lt X3
          have HL3 := Aside0.mk (Kd.C_below HL2.out hB3)
          have HRA3 := Aside0.mk ((HAT2.out.RA).2.2.below hB3)
          have HB3 := Aside0.mk (below_step HB2.out hB3)
          clear hB3 X3
          generalize hW : w2.alloc (.cells #[.int .i64 r.n, .slice A1 r.l.length c1] 27) = W3 at *
          clear hW
          generalize w2.heap.size = b3 at *
          have HCR := Aside0.mk (cnf_right r.n r.l A1 c1 W3 HCX.out.1.2.2 HCX.out.2 HCX.out.1.1 HL3.out)
          go_upto_region 7 with (first
            | (go_at_call 24; refine HCR.out.mono ?_; rintro e w4 ⟨rfl, hb⟩; have HX4 := Aside0.mk (blk_below HX3.out hb); have HRA4 := Aside0.mk (HRA3.out.below hb); have HB4 := Aside0.mk (below_step HB3.out hb); clear hb))
          clear p0 p1 pl
          have p0 := blk_cell HX4.out 0
          have p1 := blk_cell HX4.out 1
          have pl := blk_lt HX4.out
          go_wp2_with fail
          go_loopw [77] (fun i wr => ∃ k : Nat, k ≤ r.at_.length ∧ i = .int .i64 k ∧ Aside0 (Below w4.heap.size w4 wr)) (fun i _ => r.at_.length - (intOf i).toNat)
          case atStart => exact ⟨0, Nat.zero_le _, rfl, ⟨Below.refl _ _⟩⟩
          case round =>
            obtain ⟨k, hk, rfl, HBr⟩ := hrel
            have HB0r := Aside0.mk (HB4.out.trans (HBr.out.mono HB4.out.size))
            have HRAr := Aside0.mk (HRA4.out.below HBr.out)
            clear p0 p1 pl
            by_cases hlt : k < r.at_.length
            · have hltb : decide (k < r.at_.length) = true := decide_eq_true hlt
              obtain ⟨x, ad, A3, c3, B3, d3, hx, rfl, Z, hPx⟩ := HRAr.out.get HB0r.out k hlt
              obtain ⟨z0, z1, z2, z3, z4, zl0, zln⟩ := Z.cells
              have hWB : Below wr.heap.size wr (wr.alloc (.cells #[.int .i64 x.f0, .string x.f1, .string x.f2, .slice A3 x.f3.length c3, .slice B3 x.f4.length d3] 41)) := below_alloc (Below.refl _ _) _
              have HWB := Aside0.mk (below_step HBr.out hWB)
              have h4x := HLI.out k x hx
              have HC1 := Aside0.mk (ts_Literal W r.at_ x A3 c3 B3 d3 (some ad) c2 _ hPx (HB4.out.trans (HWB.out.mono HB4.out.size)) (HRA4.out.below HWB.out) (by omega))
              rw [h4x] at HC1
              have hk1 : k ≤ 1024 := by omega
              clear hx hPx Z hWB h4x
              go_wp2_with (first
                | (go_at_call 21; refine HC1.out.mono ?_; rintro e w5 ⟨rfl, hb⟩; have HB5 := Aside0.mk (below_step HWB.out hb); clear hb))
              refine ⟨?_, by simp [intOf]; omega⟩
              exact ⟨k + 1, by omega, by go_num, HB5⟩
            · have hltb : decide (k < r.at_.length) = false := decide_eq_false hlt
              have HQA := Aside0.mk (and_ l A c wr HNE.out (Kd.C_below HC.out HB0r.out))
              go_upto_region 17 with (first
                | (go_at_call 25; refine HQA.out.mono ?_; rintro e w5 ⟨A', c', B', d', rfl, hP, hb⟩; have HP5 := Aside0.mk hP; have HBr5 := Aside0.mk hb; clear hP hb))
              have hB6 : Below w5.heap.size w5 (w5.alloc (.cells (c41 (andF l) A' c' B' d') 41)) := below_alloc (Below.refl _ _) _
              have X : T41 (w5.alloc (.cells (c41 (andF l) A' c' B' d') 41)) ⟨w5.heap.size, 0, none⟩ (andF l) A' c' B' d' := T41.mk_box (w := w5) (blk_new _ _) HP5.out hB6
              have HB46 := Aside0.mk (below_step (below_step HBr.out HBr5.out) hB6)
              have HB06 := Aside0.mk (HB4.out.trans (HB46.out.mono HB4.out.size))
              have HRA6 := Aside0.mk (HRA4.out.below HB46.out)
              clear hB6
              generalize hW : w5.alloc (.cells (c41 (andF l) A' c' B' d') 41) = W6 at *
              clear hW
              generalize w5.heap.size = b6 at *
              generalize hF : andF l = F at *
              clear hF
              have HX := Aside0.mk X
              obtain ⟨k0, k1, k2, k3, k4, kl0, kln⟩ := X.box
              have HQR := Aside0.mk (claim_right F A' c' B' d' W6 HSZ.out X.P (HN.out.below HB06.out))
              clear X
              by_cases hcr : cright F = 0
              · have hcr1 : (cright F != 0) = false := by simpa using hcr
                by_cases hvl2 : vs.length < r.at_.length
                · have hd1 : decide ((vs.length : Int) < (r.at_.length : Int)) = true := decide_eq_true (by omega)
                  have hd2 : decide (vs.length < r.at_.length) = true := decide_eq_true hvl2
                  clear hcr
                  go_wp2_with (first
                    | (go_at_call 26; refine HQR.out.mono ?_; rintro e w7 ⟨rfl, hb⟩; have HB7 := Aside0.mk (HB06.out.trans (hb.mono HB06.out.size)); clear hb)
                    | (go_at_call 10; refine (law_alive _ (HN.out.below HB7.out)).mono ?_; rintro e w8 ⟨rfl, hb⟩; have HB8 := Aside0.mk (below_step HB7.out hb); clear hb))
                  go_ret
                  exact ⟨rfl, HB8.out⟩
                · have hd1 : decide ((vs.length : Int) < (r.at_.length : Int)) = false := decide_eq_false (by omega)
                  have hd2 : decide (vs.length < r.at_.length) = false := decide_eq_false hvl2
                  have hwh := HAN.out (by omega) hcr
                  have HHX := Aside0.mk (HHO.out (by omega))
                  have HQH := Aside0.mk (fun V (hb : Below W6.heap.size W6 V) => ts_Holds W6 r.at_ vs F A' c' B' d' A2 c2 Av cv V HX.out.P hb ((HN.out.below HB06.out).below hb) HSZ.out ((HRA6.out.base HB06.out).below hb) (by omega) (Kd.C_below (Kd.C_below HVC.out HB06.out) hb))
                  have HQ3 := Aside0.mk (fun V t A' c' B' d' (hP : P41 W t A' c' B' d') (hb : Below W.heap.size W V) (hsz : csize t ≤ 4096) (hRA : RA W V A2 r.at_) => ts_Holds W r.at_ vs t A' c' B' d' A2 c2 Av cv V hP hb (HN.out.below hb) hsz hRA (by omega) (Kd.C_below HVC.out hb))
                  rw [hwh] at HQH
                  clear hwh HAN HHO
                  generalize hws : holdsB r.at_ vs = hB at *
                  generalize tv (lv r.at_ vs) = g at *
                  clear hws hcr
                  go_upto_region 20 with (first
                    | (go_at_call 26; refine HQR.out.mono ?_; rintro e w7 ⟨rfl, hb⟩; have HB67 := Aside0.mk hb; obtain ⟨m0, m1, m2, m3, m4, ml0, mln⟩ := (HX.out.below hb).box; clear hb)
                    | (go_at_call 19; refine (HQH.out _ HB67.out).mono ?_; rintro e w8 ⟨rfl, hb⟩; have HB68 := Aside0.mk (below_step HB67.out hb); clear hb))
                  have HB08 := Aside0.mk (HB06.out.trans (HB68.out.mono HB06.out.size))
                  have HRA8 := Aside0.mk (HRA6.out.below HB68.out)
                  have hla : l.length ≤ 9223372036854775807 := HC.out.2.1
                  clear m0 m1 m2 m3 m4 ml0 mln k0 k1 k2 k3 k4 kl0 kln
                  generalize hall : l.all g = ball at *
                  have HALL := Aside0.mk hall
                  clear hall
                  go_wp2_with fail
                  go_loopw [17, 119] (fun v i wr => ∃ k : Nat, k ≤ l.length ∧ i = .int .i64 k ∧ v = .bool ((l.take k).all g) ∧ Aside0 (Below w8.heap.size w8 wr)) (fun _ i _ => l.length - (intOf i).toNat)
                  case atStart => exact ⟨0, Nat.zero_le _, rfl, rfl, ⟨Below.refl _ _⟩⟩
                  case round =>
                    obtain ⟨k, hk, rfl, rfl, HBq⟩ := hrel
                    have HB0q := Aside0.mk (HB08.out.trans (HBq.out.mono HB08.out.size))
                    by_cases hlt : k < l.length
                    · have hltb : decide (k < l.length) = true := decide_eq_true hlt
                      obtain ⟨x, ad, A3, c3, B3, d3, hx, rfl, Z0⟩ := at41 HC.out k hlt
                      have Z := Z0.below HB0q.out
                      obtain ⟨z0, z1, z2, z3, z4, zl0, zln⟩ := Z.cells
                      have hWB : Below wr.heap.size wr (wr.alloc (.cells #[.int .i64 x.f0, .string x.f1, .string x.f2, .slice A3 x.f3.length c3, .slice B3 x.f4.length d3] 41)) := below_alloc (Below.refl _ _) _
                      have HWB := Aside0.mk (below_step HBq.out hWB)
                      have HE : Aside0 ((l.take (k + 1)).all g = ((l.take k).all g && g x)) := ⟨by rw [take_snoc hx, List.all_append]; simp⟩
                      have h4x := HHX.out x (List.mem_of_getElem? hx)
                      have HC1 := Aside0.mk (HQ3.out _ x A3 c3 B3 d3 Z0.P (HB08.out.trans (HWB.out.mono HB08.out.size)) (HS.out x (List.mem_of_getElem? hx)) (HRA8.out.below HWB.out))
                      rw [h4x] at HC1
                      clear hx Z0 hWB h4x
                      generalize (l.take k).all g = b1 at *
                      generalize g x = b2 at *
                      cases b1 <;> cases b2 <;> (
                        go_wp2_with (first
                          | (go_at_call 19; refine HC1.out.mono ?_; rintro e w9 ⟨rfl, hb⟩; have HB9 := Aside0.mk (below_step HWB.out hb); clear hb))
                        refine ⟨?_, by simp [intOf]; omega⟩
                        exact ⟨k + 1, by omega, by go_num, by rw [HE.out]; rfl, HB9⟩)
                    · have hltb : decide (k < l.length) = false := decide_eq_false hlt
                      have htk : l.take k = l := List.take_of_length_le (by omega)
                      rw [htk, HALL.out]
                      have hbb : (ball == ball) = true := by simp
                      go_wp2_with (first
                        | (go_at_call 10; refine (law_alive _ (HN.out.below HB0q.out)).mono ?_; rintro e w9 ⟨rfl, hb⟩; have HB9 := Aside0.mk (below_step HB0q.out hb); clear hb))
                      go_ret
                      exact ⟨rfl, HB9.out⟩
              · have hcr1 : (cright F != 0) = true := by simpa using hcr
                clear hcr
                go_wp2_with (first
                  | (go_at_call 26; refine HQR.out.mono ?_; rintro e w7 ⟨rfl, hb⟩; have HB7 := Aside0.mk (HB06.out.trans (hb.mono HB06.out.size)); clear hb)
                  | (go_at_call 10; refine (law_alive _ (HN.out.below HB7.out)).mono ?_; rintro e w8 ⟨rfl, hb⟩; have HB8 := Aside0.mk (below_step HB7.out hb); clear hb))
                go_ret
                exact ⟨rfl, HB8.out⟩
        · have heb : (r.e != 0) = true := by simpa using he
          obtain ⟨h1, h2, h3⟩ := HBAD.out he
          obtain ⟨rn, rl, ra, re⟩ := r
          simp only at h1 h2 h3
          subst h1 h2 h3
          clear HCL HBAD HLIT HHOL HAND he
          go_enter Tryd.func8, Tryd.ntmps8
          go_upto_region 4 with (first
            | (go_at_call 9; refine HF.out.mono ?_; rintro e w1 ⟨rfl, hb⟩; have HB1 := Aside0.mk hb; clear hb)
            | (go_at_call 11; refine (HOF.out _ HB1.out).mono ?_; rintro e w2 ⟨A1, c1, A2, c2, rfl, hle, hC2, hat, hb⟩; have HB2 := Aside0.mk (below_step HB1.out hb); clear hle hC2 hat hb))
          have hB3 : Below w2.heap.size w2 (w2.alloc (.cells #[.int .i64 0, .slice A1 0 c1] 27)) := below_alloc (Below.refl _ _) _
          have X3 : (w2.alloc (.cells #[.int .i64 0, .slice A1 0 c1] 27)).heap[w2.heap.size]? = some (.cells #[.int .i64 0, .slice A1 0 c1] 27 (0, 0)) := blk_new _ _
          have p0 := blk_cell X3 0
          have p1 := blk_cell X3 1
          have pl := blk_lt X3
          have HB3 := Aside0.mk (below_step HB2.out hB3)
          clear hB3 X3
          generalize hW : w2.alloc (.cells #[.int .i64 0, .slice A1 0 c1] 27) = W3 at *
          clear hW
          generalize w2.heap.size = b3 at *
          go_wp2_with (first
            | (go_at_call 10; refine (law_alive _ (HN.out.below HB3.out)).mono ?_; rintro e w4 ⟨rfl, hb⟩; have HB4 := Aside0.mk (below_step HB3.out hb); clear hb))
          go_ret
          exact ⟨rfl, HB4.out⟩
end Go.Proofs.YtbfgoopomfenjaaDoor
