import Derived.Test.YtbfgoopomfenjaaDoorNb
namespace Go.Proofs.YtbfgoopomfenjaaDoor
open Go.RowKit Go.Proofs.YtbfgoopomfenjaaDoorW.PrintWords Go.Proofs.YtbfgoopomfenjaaDoorW.PrintLast Go.Proofs.YtbfgoopomfenjaaDoor.PTseitinValues
set_option linter.unusedVariables false
set_option linter.unusedSimpArgs false
attribute [local go_sem] World.cell?_alloc_lt
attribute [local go_sem] run_store_fn

/-- A row of claims, to be read; what they refer to lies in w0. -/
def RA (w0 W : World) (A : Option Addr) (l : List S41) : Prop := ReadsRow (RC w0) 5 W A l.length l
theorem RA.below {w0 W W' : World} {A : Option Addr} {l : List S41} (h : RA w0 W A l) (hb : Below W.heap.size W W') : RA w0 W' A l := ReadsRow.imp_ h hb (fun _ _ h => h)
theorem RA.get {w0 W : World} {A0 : Option Addr} {l : List S41} (hr : RA w0 W A0 l) (hb : Below w0.heap.size w0 W) (k : Nat) (hk : k < l.length) :
    ∃ x ad A c B d, l[k]? = some x ∧ A0 = some ad ∧ T41 W (ad.add (k * 5)) x A c B d ∧ P41 w0 x A c B d := by
  obtain ⟨ad, rfl, hc⟩ := hr.2.2 (by omega)
  obtain ⟨cs, hs, ⟨A, c, B, d, rfl, hP⟩, hcell⟩ := hc k l[k] (List.getElem?_eq_getElem hk)
  refine ⟨l[k], ad, A, c, B, d, List.getElem?_eq_getElem hk, rfl, ⟨?_, ?_, ?_, ?_, ?_, hP.below hb⟩, hP⟩
  · simpa using hcell 0 _ rfl
  · rw [← add_field _ _ 1 (by omega)]; exact hcell 1 _ rfl
  · rw [← add_field _ _ 2 (by omega)]; exact hcell 2 _ rfl
  · rw [← add_field _ _ 3 (by omega)]; exact hcell 3 _ rfl
  · rw [← add_field _ _ 4 (by omega)]; exact hcell 4 _ rfl
theorem AT.RA {w0 W : World} {A : Option Addr} {n c : Nat} {l : List S41} (h : AT w0 W (.slice A n c) l) : n = l.length ∧ l.length ≤ c ∧ RA w0 W A l := by
  obtain ⟨A', c', he, hl, hr⟩ := OwnRow.reads h
  injection he with e1 e2 e3
  subst e1 e3
  exact ⟨e2, hl, hr⟩
set_option maxRecDepth 100000 in
set_option maxHeartbeats 2000000 in
theorem index_59R (w0 : World) (l : List S41) (t : S41) (A0 : Option Addr) (c0 : Nat) (A : Option Addr) (c : Nat) (B : Option Addr) (d : Nat) (N : Nat) (W : World) (hB : Below w0.heap.size w0 W) (hL : RA w0 W A0 l) (hX : T41 W ⟨N, 0, none⟩ t A c B d) (hl : l.length ≤ 1000000) :
    Calls Tryd.prog 58 #[.slice A0 l.length c0, .func (.func 59) #[] #[.pointer (some ⟨N, 0, none⟩)]] W fun e w' => e = .returned (.int .i64 (posn l t)) ∧ Below W.heap.size W w' := by
  have HB := Aside0.mk hB
  have HL := Aside0.mk hL
  have HX := Aside0.mk hX
  clear hB hL hX
  go_enter Tryd.func58, Tryd.ntmps58
  go_wp2_with fail
  go_loopw [5, 8] (fun _ i wr => ∃ k : Nat, k ≤ l.length ∧ i = .int .i64 k ∧ Aside0 ((l.take k).any (fun x => same x t) = false) ∧ Aside0 (Below W.heap.size W wr)) (fun _ i _ => l.length - (intOf i).toNat)
  case atStart => exact ⟨0, Nat.zero_le _, rfl, ⟨rfl⟩, ⟨Below.refl _ _⟩⟩
  case round =>
    obtain ⟨k, hk, rfl, HN, HBr⟩ := hrel
    have HL1 := Aside0.mk (HL.out.below HBr.out)
    have HB2 := Aside0.mk (HB.out.trans (HBr.out.mono HB.out.size))
    have HX1 := Aside0.mk (HX.out.below HBr.out)
    by_cases hlt : k < l.length
    · have hltb : decide (k < l.length) = true := decide_eq_true hlt
      obtain ⟨x, ad, A3, c3, B3, d3, hx, rfl, Z, hPx⟩ := HL1.out.get HB2.out k hlt
      obtain ⟨z0, z1, z2, z3, z4, zl0, zln⟩ := Z.cells
      have HZ := Aside0.mk Z.P
      by_cases hsm : same x t = true
      · have HR := Aside0.mk (posn_at hx hsm HN.out)
        clear hx
        go_wp2_with (first | (go_at_call 59; refine (same_clo59 x t A3 c3 B3 d3 A c B d N _ HZ.out HX1.out).mono ?_; rintro e w1 ⟨rfl, hb⟩; have hb' := Aside0.mk hb; clear hb; rw [hsm]))
        go_ret
        exact ⟨by rw [HR.out]; rfl, below_step HBr.out hb'.out⟩
      · have hsm : same x t = false := by simpa using hsm
        have HN2 : Aside0 ((l.take (k + 1)).any (fun x => same x t) = false) := ⟨by rw [take_snoc hx, List.any_append, HN.out]; simp [hsm]⟩
        clear hx
        go_wp2_with (first | (go_at_call 59; refine (same_clo59 x t A3 c3 B3 d3 A c B d N _ HZ.out HX1.out).mono ?_; rintro e w1 ⟨rfl, hb⟩; have hb' := Aside0.mk (below_step HBr.out hb); clear hb; rw [hsm]))
        refine ⟨⟨k + 1, by omega, by go_num, HN2, hb'⟩, ?_⟩
        simp [intOf]; omega
    · have hltb : decide (k < l.length) = false := decide_eq_false hlt
      have HR : Aside0 (posn l t = -1) := ⟨posn_none (by
        have h1 := HN.out
        rwa [show k = l.length by omega, List.take_length] at h1)⟩
      go_wp2_with fail
      go_ret
      exact ⟨by rw [HR.out]; rfl, HBr.out⟩

theorem ts_placeR (w0 : World) (l : List S41) (t : S41) (A0 : Option Addr) (c0 : Nat) (A : Option Addr) (c : Nat) (B : Option Addr) (d : Nat) (W : World) (hB : Below w0.heap.size w0 W) (hL : RA w0 W A0 l) (hP : P41 W t A c B d) (hl : l.length ≤ 1000000) :
    Calls Tryd.prog 31 #[.slice A0 l.length c0, v41 t A c B d] W fun e w' => e = .returned (.int .i64 (posn l t)) ∧ Below W.heap.size W w' := by
  have hmf : ∀ fn first cap w, (Instr.makeFunc fn first cap).run Tryd.prog w = .ok (.func fn first cap) w := fun _ _ _ _ => rfl
  have hBW : Below W.heap.size W (W.alloc (.cells (c41 t A c B d) 41)) := below_alloc (Below.refl _ _) _
  have X : T41 (W.alloc (.cells (c41 t A c B d) 41)) ⟨W.heap.size, 0, none⟩ t A c B d := T41.mk_box (w := W) (blk_new _ _) hP hBW
  have HL := Aside0.mk (hL.below hBW)
  have HB := Aside0.mk (hB.trans (hBW.mono hB.size))
  have HBW := Aside0.mk hBW
  have HX := Aside0.mk X
  clear hBW hP hB hL X
  go_enter Tryd.func31, Tryd.ntmps31
  go_wp2_with (first | (go_at_call 58; refine (index_59R w0 l t A0 c0 A c B d _ _ HB.out HL.out HX.out hl).mono ?_; rintro e w1 ⟨rfl, hb⟩; have hb' := Aside0.mk hb; clear hb))
  go_ret
  exact ⟨rfl, below_step HBW.out hb'.out⟩
end Go.Proofs.YtbfgoopomfenjaaDoor
namespace Go.Proofs.YtbfgoopomfenjaaDoor
open Go.RowKit Go.Proofs.YtbfgoopomfenjaaDoorW.PrintWords Go.Proofs.YtbfgoopomfenjaaDoorW.PrintLast Go.Proofs.YtbfgoopomfenjaaDoor.PTseitinValues
set_option linter.unusedVariables false
set_option linter.unusedSimpArgs false
attribute [local go_sem] World.cell?_alloc_lt

mutual
/-- A claim but for its bound names: what Same looks at. -/
def nf : S41 → S41
  | ⟨o, n, s, ts, us⟩ => ⟨o, if bind o = true then ⟨#[]⟩ else n, s, ts, nfL us⟩
def nfL : List S41 → List S41
  | [] => []
  | a :: us => nf a :: nfL us
end
theorem nf_eq (t : S41) : nf t = ⟨t.f0, if bind t.f0 = true then ⟨#[]⟩ else t.f1, t.f2, t.f3, nfL t.f4⟩ := by cases t; rw [nf]
theorem tcmpL_zero : ∀ l m : List S82, tcmpL l m = 0 ↔ l = m
  | [], [] => by simp [tcmpL]
  | [], b :: m => by simp [tcmpL]
  | a :: l, [] => by simp [tcmpL]
  | a :: l, b :: m => by
    have ih := tcmpL_zero l m
    have hz := tcmp_zero (a := a) (b := b)
    rw [tcmpL]
    constructor
    · intro h
      split at h
      · rename_i h1; rw [hz.1 h1, ih.1 h]
      · rename_i h1; exact absurd h h1
    · intro h
      injection h with h1 h2
      rw [if_pos (hz.2 h1)]; exact ih.2 h2
theorem same_iff (q : Nat) : ∀ a b : S41, csize a ≤ q → (same a b = true ↔ nf a = nf b) := by
  induction q with
  | zero => intro a b h; rw [csize_eq] at h; omega
  | succ q ih =>
    intro a b h
    rw [csize_eq] at h
    have hL : ∀ us vs : List S41, csizeL us ≤ q → (sameL us vs = true ↔ nfL us = nfL vs) := by
      intro us
      induction us with
      | nil => intro vs _; cases vs <;> simp [sameL, nfL]
      | cons x us ih2 =>
        intro vs hu
        rw [csizeL] at hu
        cases vs with
        | nil => simp [sameL, nfL]
        | cons y vs =>
          rw [sameL, nfL, nfL, Bool.and_eq_true, ih x y (by omega), ih2 vs (by omega), List.cons.injEq]
    rw [same_eq, nf_eq, nf_eq]
    simp only [Bool.and_eq_true, Bool.or_eq_true, beq_iff_eq, decide_eq_true_eq, tcmpL_zero, S41.mk.injEq, hL a.f4 b.f4 (by omega)]
    constructor
    · rintro ⟨⟨⟨⟨h1, h2⟩, h3⟩, h4⟩, h5⟩
      refine ⟨h1, ?_, h3, h4, h5⟩
      rw [← h1]
      rcases h2 with h2 | h2
      · rw [if_pos h2, if_pos h2]
      · rw [h2]
    · rintro ⟨h1, h2, h3, h4, h5⟩
      refine ⟨⟨⟨⟨h1, ?_⟩, h3⟩, h4⟩, h5⟩
      rw [← h1] at h2
      by_cases hb : bind a.f0 = true
      · exact .inl hb
      · rw [if_neg hb, if_neg hb] at h2; exact .inr h2
theorem same_nf {a b : S41} : same a b = true ↔ nf a = nf b := same_iff _ a b (Nat.le_refl _)
theorem same_refl (a : S41) : same a a = true := same_nf.2 rfl
theorem same_trans {a b c : S41} (h : same a b = true) (k : same b c = true) : same a c = true := same_nf.2 ((same_nf.1 h).trans (same_nf.1 k))

/-- What a part's value is, of its subs' ones. -/
def hv (op : Int) (s : List Bool) : Bool :=
  if op = 1 then true else if op = 6 then !(s.getD 0 false) else if op = 7 then s.getD 0 false && s.getD 1 false else if op = 8 then s.getD 0 false || s.getD 1 false
  else if op = 9 then !(s.getD 0 false) || s.getD 1 false else if op = 10 then s.getD 0 false == s.getD 1 false else false
mutual
/-- The leaves: what has no variable of its own. -/
def leaves : S41 → List S41
  | ⟨o, n, s, ts, us⟩ => if isPart o = true then leavesL us else [⟨o, n, s, ts, us⟩]
def leavesL : List S41 → List S41
  | [] => []
  | a :: us => leaves a ++ leavesL us
end
mutual
/-- A claim's value, by the leaves' ones. -/
def tv (g : S41 → Bool) : S41 → Bool
  | ⟨o, n, s, ts, us⟩ => if isPart o = true then hv o (tvL g us) else g ⟨o, n, s, ts, us⟩
def tvL (g : S41 → Bool) : List S41 → List Bool
  | [] => []
  | a :: us => tv g a :: tvL g us
end
mutual
/-- The values of a claim's parts, as they come up. -/
def pv (g : S41 → Bool) : S41 → List Bool
  | ⟨o, n, s, ts, us⟩ => if isPart o = true then pvL g us ++ [hv o (tvL g us)] else []
def pvL (g : S41 → Bool) : List S41 → List Bool
  | [] => []
  | a :: us => pv g a ++ pvL g us
end
theorem leaves_eq (t : S41) : leaves t = if isPart t.f0 = true then leavesL t.f4 else [t] := by cases t; rw [leaves]
theorem tv_eq (g : S41 → Bool) (t : S41) : tv g t = if isPart t.f0 = true then hv t.f0 (tvL g t.f4) else g t := by cases t; rw [tv]
theorem pv_eq (g : S41 → Bool) (t : S41) : pv g t = if isPart t.f0 = true then pvL g t.f4 ++ [hv t.f0 (tvL g t.f4)] else [] := by cases t; rw [pv]
theorem leavesL_mem {us : List S41} {a : S41} : a ∈ leavesL us ↔ ∃ x ∈ us, a ∈ leaves x := by
  induction us with
  | nil => simp [leavesL]
  | cons x us ih => simp [leavesL, ih]
theorem tvL_map (g : S41 → Bool) (us : List S41) : tvL g us = us.map (tv g) := by
  induction us with
  | nil => rfl
  | cons x us ih => rw [tvL, ih]; rfl
theorem pvL_snoc (g : S41 → Bool) (us : List S41) (x : S41) : pvL g (us ++ [x]) = pvL g us ++ pv g x := by
  induction us with
  | nil => simp [pvL]
  | cons a us ih => rw [List.cons_append, pvL, ih, pvL, List.append_assoc]
theorem pvL_take (g : S41 → Bool) {us : List S41} {k : Nat} {x : S41} (hx : us[k]? = some x) : pvL g (us.take (k + 1)) = pvL g (us.take k) ++ pv g x := by rw [take_snoc hx, pvL_snoc]
theorem pv_len (g : S41 → Bool) (q : Nat) : ∀ t : S41, csize t ≤ q → (pv g t).length ≤ csize t := by
  induction q with
  | zero => intro t h; rw [csize_eq] at h; omega
  | succ q ih =>
    intro t h
    have hL : ∀ us : List S41, csizeL us ≤ q → (pvL g us).length ≤ csizeL us := by
      intro us
      induction us with
      | nil => intro _; simp [pvL]
      | cons a us ih2 =>
        intro hu
        rw [csizeL] at hu ⊢
        rw [pvL, List.length_append]
        have h1 := ih a (by omega)
        have h2 := ih2 (by omega)
        omega
    rw [csize_eq] at h ⊢
    rw [pv_eq]
    split
    · rw [List.length_append]
      have := hL t.f4 (by omega)
      have h1 : [hv t.f0 (tvL g t.f4)].length = 1 := rfl
      omega
    · simp

/-- Is a claim among others? -/
def Has (l : List S41) (t : S41) : Prop := ∃ a ∈ l, same a t = true
theorem Has.any {l : List S41} {t : S41} : Has l t ↔ l.any (fun x => same x t) = true := by
  unfold Has; rw [List.any_eq_true]
theorem Has.posn {l : List S41} {t : S41} (h : Has l t) : 0 ≤ posn l t ∧ posn l t < l.length := by
  unfold YtbfgoopomfenjaaDoor.posn
  rw [if_pos (Has.any.1 h)]
  have := List.findIdx_lt_length.2 h
  omega
theorem posn_has {l : List S41} {t : S41} (h : 0 ≤ posn l t) : Has l t := by
  unfold YtbfgoopomfenjaaDoor.posn at h
  split at h
  · rename_i h1; exact Has.any.2 h1
  · omega
theorem Has.mono {l m : List S41} {t : S41} (h : Has l t) (hm : ∀ a ∈ l, a ∈ m) : Has m t := by
  obtain ⟨a, ha, hs⟩ := h
  exact ⟨a, hm a ha, hs⟩
theorem Has.trans {l m : List S41} {t : S41} (h : Has l t) (k : ∀ a ∈ l, Has m a) : Has m t := by
  obtain ⟨a, ha, hs⟩ := h
  obtain ⟨b, hb, hs2⟩ := k a ha
  exact ⟨b, hb, same_trans hs2 hs⟩
theorem atoms_has (q : Nat) : ∀ (t : S41) (l : List S41), csize t ≤ q → cparts t = 0 → (∀ a ∈ l, a ∈ atomsC t l) ∧ ∀ a ∈ leaves t, Has (atomsC t l) a := by
  induction q with
  | zero => intro t l h; rw [csize_eq] at h; omega
  | succ q ih =>
    intro t l h hz
    obtain ⟨⟨h1, h2⟩, hlen, hok⟩ := cparts_ok hz
    have hL : ∀ us : List S41, csizeL us ≤ q → (∀ x ∈ us, cparts x = 0) → ∀ l, (∀ a ∈ l, a ∈ atomsL us l) ∧ ∀ a ∈ leavesL us, Has (atomsL us l) a := by
      intro us
      induction us with
      | nil => intro _ _ l; rw [atomsL, leavesL]; exact ⟨fun a h => h, fun a h => by cases h⟩
      | cons x us ih2 =>
        intro hu hx l
        rw [csizeL] at hu
        rw [atomsL, leavesL]
        obtain ⟨k1, k2⟩ := ih x l (by omega) (hx x (by simp))
        obtain ⟨k3, k4⟩ := ih2 (by omega) (fun y hy => hx y (by simp [hy])) (atomsC x l)
        refine ⟨fun a h => k3 a (k1 a h), fun a h => ?_⟩
        rcases List.mem_append.1 h with h | h
        · exact (k2 a h).mono k3
        · exact k4 a h
    rw [csize_eq] at h
    rw [atomsC_eq, leaves_eq]
    have hsub : ∀ x ∈ t.f4, cparts x = 0 := fun x hx => by
      obtain ⟨k, hk⟩ := List.getElem?_of_mem hx
      exact hok k x hk
    by_cases c1 : t.f0 = 1 ∨ t.f0 = 2
    · rw [if_pos c1]
      have hp : isPart t.f0 = true := by unfold isPart; rcases c1 with c | c <;> simp [c]
      rw [if_pos hp]
      have h0 : t.f4 = [] := by
        apply List.eq_nil_of_length_eq_zero
        have : csN t.f0 = 0 := by unfold csN; rcases c1 with c | c <;> simp [c]
        omega
      rw [h0, leavesL]
      exact ⟨fun a h => h, fun a h => by cases h⟩
    · rw [if_neg c1]
      by_cases c2 : 6 ≤ t.f0 ∧ t.f0 ≤ 10
      · rw [if_pos c2, if_pos (by unfold isPart; simp [c2])]
        exact hL t.f4 (by omega) hsub l
      · have hp : ¬ isPart t.f0 = true := by unfold isPart; simp; omega
        rw [if_neg c2, if_neg hp]
        by_cases c3 : l.any (fun x => same x t) = true
        · rw [if_pos c3]
          exact ⟨fun a h => h, fun a h => by rw [List.mem_singleton.1 h]; exact Has.any.2 c3⟩
        · rw [if_neg c3]
          exact ⟨fun a h => List.mem_append_left _ h, fun a h => ⟨t, by simp, by rw [List.mem_singleton.1 h]; exact same_refl t⟩⟩
theorem atomsL_has {us : List S41} (hz : ∀ x ∈ us, cparts x = 0) (l : List S41) : (∀ a ∈ l, a ∈ atomsL us l) ∧ ∀ x ∈ us, ∀ a ∈ leaves x, Has (atomsL us l) a := by
  induction us generalizing l with
  | nil => rw [atomsL]; exact ⟨fun a h => h, fun x h => by cases h⟩
  | cons y us ih =>
    rw [atomsL]
    obtain ⟨k1, k2⟩ := atoms_has _ y l (Nat.le_refl _) (hz y (by simp))
    obtain ⟨k3, k4⟩ := ih (fun x hx => hz x (by simp [hx])) (atomsC y l)
    refine ⟨fun a h => k3 a (k1 a h), fun x hx a ha => ?_⟩
    rcases List.mem_cons.1 hx with rfl | hx
    · exact (k2 a ha).mono k3
    · exact k4 x hx a ha
end Go.Proofs.YtbfgoopomfenjaaDoor
namespace Go.Proofs.YtbfgoopomfenjaaDoor
open Go.RowKit Go.Proofs.YtbfgoopomfenjaaDoorW.PrintWords Go.Proofs.YtbfgoopomfenjaaDoorW.PrintLast Go.Proofs.YtbfgoopomfenjaaDoor.PTseitinValues
set_option linter.unusedVariables false
set_option linter.unusedSimpArgs false
attribute [local go_sem] World.cell?_alloc_lt
attribute [local go_sem] run_store_fn

theorem add_zero_ (ad : Addr) : ad.add 0 = ad := by unfold Addr.add; rw [if_pos rfl]
theorem add_one_ (ad : Addr) : ad.add 1 = ⟨ad.block, ad.off + 1, none⟩ := by
  have h := add_field ad 0 1 (by omega)
  rwa [add_zero_] at h
set_option maxRecDepth 100000 in
set_option maxHeartbeats 2000000 in
/-- tseitin.holds -/
theorem ts_holds (op : Int) (s : List Bool) (A : Option Addr) (c : Nat) (W : World) (hp : isPart op = true) (hl : (s.length : Int) = csN op) (hC : kB.C W A s.length s) :
    Calls Tryd.prog 67 #[.int .i64 op, .slice A s.length c] W fun e w' => e = .returned (.bool (hv op s)) ∧ Below W.heap.size W w' := by
  obtain hop | hop | hop | hop | hop | hop | hop : op = 1 ∨ op = 2 ∨ op = 6 ∨ op = 7 ∨ op = 8 ∨ op = 9 ∨ op = 10 := by
    unfold isPart at hp; simp only [Bool.or_eq_true, Bool.and_eq_true, beq_iff_eq, decide_eq_true_eq] at hp; omega
  · subst hop
    go_enter Tryd.func67, Tryd.ntmps67
    go_wp2_with fail
    go_ret
    exact ⟨rfl, Below.refl _ _⟩
  · subst hop
    go_enter Tryd.func67, Tryd.ntmps67
    go_wp2_with fail
    go_ret
    exact ⟨rfl, Below.refl _ _⟩
  · subst hop
    have h1 : s.length = 1 := by have e : csN 6 = 1 := rfl; omega
    obtain ⟨a, rfl⟩ := List.length_eq_one_iff.1 h1
    obtain ⟨x, ad, hx, rfl, hc, hlt⟩ := atB hC 0 (by simp)
    have hxa : a = x := by simpa using hx
    subst hxa
    rw [add_zero_] at hc hlt
    clear hC hl
    go_enter Tryd.func67, Tryd.ntmps67
    go_wp2_with fail
    go_ret
    exact ⟨rfl, Below.refl _ _⟩
  all_goals (
    subst hop
    have h1 : s.length = 2 := by have e : csN 7 = 2 := rfl; have e : csN 8 = 2 := rfl; have e : csN 9 = 2 := rfl; have e : csN 10 = 2 := rfl; omega
    obtain ⟨a, b, rfl⟩ : ∃ a b, s = [a, b] := by
      match s, h1 with
      | [a, b], _ => exact ⟨a, b, rfl⟩
    obtain ⟨x, ad, hx, rfl, hc, hlt⟩ := atB hC 0 (by simp)
    obtain ⟨y, ad', hy, he, hc2, hlt2⟩ := atB hC 1 (by simp)
    obtain rfl : ad = ad' := by injection he
    have hxa : a = x := by simpa using hx
    have hya : b = y := by simpa using hy
    subst hxa hya
    rw [add_zero_] at hc hlt
    rw [add_one_] at hc2 hlt2
    clear hC hl hx hy he)
  · go_enter Tryd.func67, Tryd.ntmps67
    cases a <;> cases b <;> (go_wp2_with fail; go_ret; exact ⟨rfl, Below.refl _ _⟩)
  · go_enter Tryd.func67, Tryd.ntmps67
    cases a <;> cases b <;> (go_wp2_with fail; go_ret; exact ⟨rfl, Below.refl _ _⟩)
  · go_enter Tryd.func67, Tryd.ntmps67
    cases a <;> cases b <;> (go_wp2_with fail; go_ret; exact ⟨rfl, Below.refl _ _⟩)
  · go_enter Tryd.func67, Tryd.ntmps67
    cases a <;> cases b <;> (go_wp2_with fail; go_quiet (fail); go_wp2_with fail; go_ret; exact ⟨rfl, pw_below_drewN (Below.refl _ _) _⟩)

/-- A box of claims, a box of values: what the leaves' closure wants. -/
structure LeafBoxes (w0 : World) (at_ : List S41) (vs : List Bool) (bV bA : Nat) (W : World) : Prop where
  below : Below w0.heap.size w0 W
  at_box : ∃ Aa ca, Boxed W bA 22 (.slice Aa at_.length ca) ∧ RA w0 W Aa at_
  vs_box : ∃ Av cv, Boxed W bV 34 (.slice Av vs.length cv) ∧ kB.C W Av vs.length vs
  al : at_.length ≤ 1000000
theorem LeafBoxes.step {w0 : World} {at_ : List S41} {vs : List Bool} {bV bA : Nat} {W W' : World} (h : LeafBoxes w0 at_ vs bV bA W) (hb : Below W.heap.size W W') : LeafBoxes w0 at_ vs bV bA W' := by
  obtain ⟨h1, ⟨Aa, ca, h2, h3⟩, ⟨Av, cv, h4, h5⟩, h6⟩ := h
  exact ⟨h1.trans (hb.mono h1.size), ⟨Aa, ca, h2.kept (grown_of_below hb none) (by simp), h3.below hb⟩, ⟨Av, cv, h4.kept (grown_of_below hb none) (by simp), Kd.C_below h5 hb⟩, h6⟩
/-- A leaf's value. -/
def lv (at_ : List S41) (vs : List Bool) (a : S41) : Bool := vs.getD (posn at_ a).toNat false
def LEAF (n : Nat) : Prop := ∀ (w0 : World) (at_ : List S41) (vs : List Bool) (bV bA : Nat) (t : S41) (A : Option Addr) (c : Nat) (B : Option Addr) (d : Nat) (W : World), LeafBoxes w0 at_ vs bV bA W → P41 W t A c B d → 0 ≤ posn at_ t → posn at_ t < vs.length →
  Calls Tryd.prog n #[v41 t A c B d, .pointer (some ⟨bV, 0, none⟩), .pointer (some ⟨bA, 0, none⟩)] W fun e w' => e = .returned (.bool (lv at_ vs t)) ∧ Below W.heap.size W w'

set_option maxRecDepth 100000 in
set_option maxHeartbeats 4000000 in
theorem leaf_43 : LEAF 43 := by
  intro w0 at_ vs bV bA t A c B d W hL hP h0 h1
  obtain ⟨hB, ⟨Aa, ca, hbA, hRA⟩, ⟨Av, cv, hbV, hVC⟩, hal⟩ := hL
  obtain ⟨k, hk⟩ := Int.eq_ofNat_of_zero_le h0
  have hkl : k < vs.length := by omega
  obtain ⟨x, ad, hx, rfl, hc, hlt⟩ := atB hVC k hkl
  have HV : Aside0 (lv at_ vs t = x) := ⟨by unfold lv; rw [hk, Int.toNat_natCast, List.getD_eq_getElem?_getD, hx]; rfl⟩
  have hBW : Below W.heap.size W (W.alloc (.cells (c41 t A c B d) 41)) := below_alloc (Below.refl _ _) _
  have X : T41 (W.alloc (.cells (c41 t A c B d) 41)) ⟨W.heap.size, 0, none⟩ t A c B d := T41.mk_box (w := W) (blk_new _ _) hP hBW
  have v0 := (hbV.kept (grown_of_below hBW none) (by simp)).cell
  have a0 := (hbA.kept (grown_of_below hBW none) (by simp)).cell
  have hcx := (hBW.cell (p := ad.add k) hlt).trans hc
  have HBb := Aside0.mk (hB.trans (hBW.mono hB.size))
  have HRA := Aside0.mk (hRA.below hBW)
  have vl := (hbV.kept (grown_of_below hBW none) (by simp)).lt
  have aL := (hbA.kept (grown_of_below hBW none) (by simp)).lt
  have HBW := Aside0.mk hBW
  have hlt2 : (ad.add k).block < (W.alloc (.cells (c41 t A c B d) 41)).heap.size := Nat.lt_of_lt_of_le hlt hBW.size
  have hcap : vs.length ≤ 9223372036854775807 := hVC.2.1
  clear hBW hP hB hRA hbA hbV hVC h0 h1 hx hc hlt
  go_enter Tryd.func43, Tryd.ntmps43
  go_upto_region 1 with fail
  generalize hW : W.alloc (.cells (c41 t A c B d) 41) = W0 at *
  clear hW
  obtain ⟨k0, k1, k2, k3, k4, kl0, kln⟩ := X.box
  have HQ := Aside0.mk (ts_placeR w0 at_ t Aa ca A c B d W0.drew (HBb.out.drew) (HRA.out.below (Below.refl _ _).drew) (X.P.below (Below.refl _ _).drew) hal)
  rw [hk] at HQ
  go_region_held3 (fun V => V.cell? ⟨bV, 0, none⟩ = some (.slice (some ad) vs.length cv) ∧ V.cell? ⟨bA, 0, none⟩ = some (.slice Aa at_.length ca) ∧ V.cell? ⟨W.heap.size, 0, none⟩ = some (.int .i64 t.f0) ∧ V.cell? ⟨W.heap.size, 1, none⟩ = some (.string t.f1) ∧ V.cell? ⟨W.heap.size, 2, none⟩ = some (.string t.f2) ∧ V.cell? ⟨W.heap.size, 3, none⟩ = some (.slice A t.f3.length c) ∧ V.cell? ⟨W.heap.size, 4, none⟩ = some (.slice B t.f4.length d) ∧ V.cell? (ad.add k) = some (.bool x)) (go_keep) (first | (go_at_call 31; refine HQ.out.mono ?_; rintro e w1 ⟨rfl, hb⟩; have hb2 := Below.trans (Below.refl W0.heap.size W0).drew hb; have HB2 := Aside0.mk hb2; have X2 := X.below hb2; obtain ⟨g0, g1, g2, g3, g4, gl0, gln⟩ := X2.box; have w0_ := (hb2.cell (p := ⟨bV, 0, none⟩) vl).trans v0; have w1_ := (hb2.cell (p := ⟨bA, 0, none⟩) aL).trans a0; have w2_ := (hb2.cell (p := ad.add k) hlt2).trans hcx; have w3_ := Nat.lt_of_lt_of_le vl hb2.size; have w4_ := Nat.lt_of_lt_of_le aL hb2.size; have w5_ := Nat.lt_of_lt_of_le hlt2 hb2.size; clear hb hb2))
  go_wp2_with fail
  go_ret
  exact ⟨by rw [HV.out]; rfl, HBW.out.trans (HB2.out.mono HBW.out.size)⟩

set_option maxRecDepth 100000 in
set_option maxHeartbeats 4000000 in
theorem leaf_39 : LEAF 39 := by
  intro w0 at_ vs bV bA t A c B d W hL hP h0 h1
  obtain ⟨hB, ⟨Aa, ca, hbA, hRA⟩, ⟨Av, cv, hbV, hVC⟩, hal⟩ := hL
  obtain ⟨k, hk⟩ := Int.eq_ofNat_of_zero_le h0
  have hkl : k < vs.length := by omega
  obtain ⟨x, ad, hx, rfl, hc, hlt⟩ := atB hVC k hkl
  have HV : Aside0 (lv at_ vs t = x) := ⟨by unfold lv; rw [hk, Int.toNat_natCast, List.getD_eq_getElem?_getD, hx]; rfl⟩
  have hBW : Below W.heap.size W (W.alloc (.cells (c41 t A c B d) 41)) := below_alloc (Below.refl _ _) _
  have X : T41 (W.alloc (.cells (c41 t A c B d) 41)) ⟨W.heap.size, 0, none⟩ t A c B d := T41.mk_box (w := W) (blk_new _ _) hP hBW
  have v0 := (hbV.kept (grown_of_below hBW none) (by simp)).cell
  have a0 := (hbA.kept (grown_of_below hBW none) (by simp)).cell
  have hcx := (hBW.cell (p := ad.add k) hlt).trans hc
  have HBb := Aside0.mk (hB.trans (hBW.mono hB.size))
  have HRA := Aside0.mk (hRA.below hBW)
  have vl := (hbV.kept (grown_of_below hBW none) (by simp)).lt
  have aL := (hbA.kept (grown_of_below hBW none) (by simp)).lt
  have HBW := Aside0.mk hBW
  have hlt2 : (ad.add k).block < (W.alloc (.cells (c41 t A c B d) 41)).heap.size := Nat.lt_of_lt_of_le hlt hBW.size
  have hcap : vs.length ≤ 9223372036854775807 := hVC.2.1
  clear hBW hP hB hRA hbA hbV hVC h0 h1 hx hc hlt
  go_enter Tryd.func39, Tryd.ntmps39
  go_upto_region 1 with fail
  generalize hW : W.alloc (.cells (c41 t A c B d) 41) = W0 at *
  clear hW
  obtain ⟨k0, k1, k2, k3, k4, kl0, kln⟩ := X.box
  have HQ := Aside0.mk (ts_placeR w0 at_ t Aa ca A c B d W0.drew (HBb.out.drew) (HRA.out.below (Below.refl _ _).drew) (X.P.below (Below.refl _ _).drew) hal)
  rw [hk] at HQ
  go_region_held3 (fun V => V.cell? ⟨bV, 0, none⟩ = some (.slice (some ad) vs.length cv) ∧ V.cell? ⟨bA, 0, none⟩ = some (.slice Aa at_.length ca) ∧ V.cell? ⟨W.heap.size, 0, none⟩ = some (.int .i64 t.f0) ∧ V.cell? ⟨W.heap.size, 1, none⟩ = some (.string t.f1) ∧ V.cell? ⟨W.heap.size, 2, none⟩ = some (.string t.f2) ∧ V.cell? ⟨W.heap.size, 3, none⟩ = some (.slice A t.f3.length c) ∧ V.cell? ⟨W.heap.size, 4, none⟩ = some (.slice B t.f4.length d) ∧ V.cell? (ad.add k) = some (.bool x)) (go_keep) (first | (go_at_call 31; refine HQ.out.mono ?_; rintro e w1 ⟨rfl, hb⟩; have hb2 := Below.trans (Below.refl W0.heap.size W0).drew hb; have HB2 := Aside0.mk hb2; have X2 := X.below hb2; obtain ⟨g0, g1, g2, g3, g4, gl0, gln⟩ := X2.box; have w0_ := (hb2.cell (p := ⟨bV, 0, none⟩) vl).trans v0; have w1_ := (hb2.cell (p := ⟨bA, 0, none⟩) aL).trans a0; have w2_ := (hb2.cell (p := ad.add k) hlt2).trans hcx; have w3_ := Nat.lt_of_lt_of_le vl hb2.size; have w4_ := Nat.lt_of_lt_of_le aL hb2.size; have w5_ := Nat.lt_of_lt_of_le hlt2 hb2.size; clear hb hb2))
  go_wp2_with fail
  go_ret
  exact ⟨by rw [HV.out]; rfl, HBW.out.trans (HB2.out.mono HBW.out.size)⟩
end Go.Proofs.YtbfgoopomfenjaaDoor
namespace Go.Proofs.YtbfgoopomfenjaaDoor
open Go.RowKit Go.Proofs.YtbfgoopomfenjaaDoorW.PrintWords Go.Proofs.YtbfgoopomfenjaaDoorW.PrintLast Go.Proofs.YtbfgoopomfenjaaDoor.PTseitinValues
set_option linter.unusedVariables false
set_option linter.unusedSimpArgs false
attribute [local go_sem] World.cell?_alloc_lt
attribute [local go_sem] run_store_fn

theorem info4 : (Tryd.prog.info? 4).map (fun i => (i.zero, i.size, i.bytes)) = some (some (.bool false), 1, 1) := by kernel_rfl
abbrev bls (l : List Bool) : List Value := encs Value.bool l
theorem bls_C {w : World} {base n c : Nat} {A : Option Addr} {xs : List Bool} (h : w.ownsRow base 4 1 (.slice A n c) n (bls xs)) : xs.length = n ∧ n ≤ c ∧ kB.C w A xs.length xs := by
  have hl : xs.length = n := by have := h.1; simp [encs] at this; exact this
  refine ⟨hl, own_le h, ?_⟩
  subst hl
  have hr : Reps (kB.K w) 1 xs (bls xs) := by
    refine ⟨by simp [encs], fun j p hj => ?_⟩
    have hjl := (List.getElem?_eq_some_iff.1 hj).1
    show ((bls xs).drop (j * 1)).take 1 = [.bool p]
    obtain ⟨h1, h2⟩ := List.getElem?_eq_some_iff.1 hj
    rw [Nat.mul_one]
    have hb : (bls xs)[j]? = some (.bool p) := by simp [encs, hj]
    obtain ⟨h3, h4⟩ := List.getElem?_eq_some_iff.1 hb
    rw [List.drop_eq_getElem_cons h3, h4]
    rfl
  obtain ⟨A', c', he, hrow⟩ := own_reads_row h hr rfl
  injection he with e1
  subst e1
  exact hrow
/-- What the part's closure keeps: out's values so far, v their slice. -/
structure EvInv (w0 : World) (N0 : Nat) (E0 : Nat → Prop) (Inv : List Bool → Value → World → Prop) : Prop where
  upd : ∀ out v W W', Inv out v W → Upd (fun i => N0 ≤ i ∧ ¬ Ev v i) W W' → Inv out v W'
  below : ∀ out v W, Inv out v W → Below w0.heap.size w0 W
  size : ∀ out v W, Inv out v W → N0 ≤ W.heap.size
  lt : ∀ out v W i, Inv out v W → (E0 i ∨ Ev v i) → w0.heap.size ≤ i ∧ i < W.heap.size
theorem EvInv.bel {w0 : World} {N0 : Nat} {E0 : Nat → Prop} {Inv : List Bool → Value → World → Prop} (h : EvInv w0 N0 E0 Inv) {out : List Bool} {v : Value} {W W' : World} (hI : Inv out v W) (hb : Below W.heap.size W W') : Inv out v W' := h.upd _ _ _ _ hI (Upd.of_below hb)
abbrev E0v (E0 : Nat → Prop) (v : Value) : Nat → Prop := fun i => E0 i ∨ Ev v i
theorem Upd.ownE {E0 : Nat → Prop} {v v1 : Value} {A B C : World} (h : Upd (E0v E0 v) A B) (hs : OwnStep A.heap.size v v1) (k : Upd (E0v E0 v1) B C) : Upd (E0v E0 v) A C :=
  ⟨k.os.trans h.os, k.tape.trans h.tape, k.output.trans h.output, Nat.le_trans h.size k.size, fun i hi he => (k.block i (Nat.lt_of_lt_of_le hi h.size) (fun e => by
    rcases e with e | e
    · exact he (.inl e)
    · rcases hs with hs | ⟨b, hb, hle⟩
      · exact he (.inr (hs.symm.trans e))
      · have : b = i := by rw [show v1.ownBlock = some i from e] at hb; injection hb with hb; exact hb.symm
        omega)).trans (h.block i hi he)⟩
def EvOut (w0 : World) (E0 : Nat → Prop) (Inv : List Bool → Value → World → Prop) (out' : List Bool) (r : Value) (v : Value) (W : World) (e : Ending) (W' : World) : Prop :=
  e = .returned r ∧ ∃ v', Inv out' v' W' ∧ Upd (E0v E0 v) W W' ∧ OwnStep W.heap.size v v'
/-- The subs' values so far. -/
def EvRel (g : S41 → Bool) (us : List S41) (w0 W1 : World) (E0 : Nat → Prop) (Inv : List Bool → Value → World → Prop) (out : List Bool) (v0 v7 i : Value) (wr : World) : Prop :=
  ∃ k As cs v, k ≤ us.length ∧ i = .int .i64 (k : Nat) ∧ v7 = .slice As k cs ∧
    Aside0 (wr.ownsRow W1.heap.size 4 1 (.slice As k cs) k (bls (tvL g (us.take k)))) ∧ Aside0 (Inv (out ++ pvL g (us.take k)) v wr) ∧ Aside0 (Upd (E0v E0 v0) W1 wr) ∧ Aside0 (OwnStep W1.heap.size v0 v) ∧ Aside0 (∀ i, Ev (.slice As k cs) i → ¬ Ev v i)
theorem tvL_take (g : S41 → Bool) {us : List S41} {k : Nat} {x : S41} (hx : us[k]? = some x) : tvL g (us.take (k + 1)) = tvL g (us.take k) ++ [tv g x] := by
  rw [tvL_map, tvL_map, take_snoc hx, List.map_append]; rfl
theorem pvL_len (g : S41 → Bool) (us : List S41) (k : Nat) : (pvL g (us.take k)).length ≤ sumTo csize us k := by
  induction k with
  | zero => simp [pvL]
  | succ k ih =>
    rcases Nat.lt_or_ge k us.length with h | h
    · have hx : us[k]? = some us[k] := List.getElem?_eq_getElem h
      rw [pvL_take g hx, sumTo_step csize hx, List.length_append]
      have := pv_len g _ us[k] (Nat.le_refl _)
      omega
    · have e : us.take (k + 1) = us.take k := by rw [List.take_of_length_le h, List.take_of_length_le (by omega)]
      have e2 : sumTo csize us (k + 1) = sumTo csize us k := by unfold sumTo; rw [e]
      rw [e, e2]; exact ih

def PART_h (Inv : List Bool → Value → World → Prop) (w0 : World) (E0 : Nat → Prop) (bO m : Nat) : Prop := ∀ (b : Bool) (out : List Bool) (v : Value) (W : World), Inv out v W → out.length < m → Calls Tryd.prog 44 #[.bool b] W (EvOut w0 E0 Inv (out ++ [b]) (.tuple #[]) v W)
def EV_h (w0 : World) (at_ : List S41) (vs : List Bool) (bV bA bO m : Nat) (E0 : Nat → Prop) (Inv : List Bool → Value → World → Prop) (t : S41) : Prop := ∀ (A : Option Addr) (c : Nat) (B : Option Addr) (d : Nat) (out : List Bool) (v : Value) (W : World), P41 w0 t A c B d → cparts t = 0 →
  (∀ a ∈ leaves t, 0 ≤ posn at_ a ∧ posn at_ a < vs.length) → Inv out v W → out.length + csize t ≤ m →
  Calls Tryd.prog 38 #[v41 t A c B d, .func (.func 43) #[] #[.pointer (some ⟨bV, 0, none⟩), .pointer (some ⟨bA, 0, none⟩)], .func (.func 44) #[] #[]] W (EvOut w0 E0 Inv (out ++ pv (lv at_ vs) t) (.bool (tv (lv at_ vs) t)) v W)

set_option maxRecDepth 100000 in
set_option maxHeartbeats 4000000 in
theorem ev_leaf_h (w0 : World) (at_ : List S41) (vs : List Bool) (bV bA bO m N0 : Nat) (E0 : Nat → Prop) (Inv : List Bool → Value → World → Prop) (hI : EvInv w0 N0 E0 Inv) (hLB : ∀ out v W, Inv out v W → LeafBoxes w0 at_ vs bV bA W) (t : S41) (hp : isPart t.f0 = false) : EV_h w0 at_ vs bV bA bO m E0 Inv t := by
  intro A c B d out v W hP hR hlv hInv hm
  obtain ⟨⟨h1, h2⟩, _, _⟩ := cparts_ok hR
  obtain ⟨p1, p2⟩ := hlv t (by rw [leaves_eq, if_neg (by rw [hp]; decide)]; simp)
  have HPV : Aside0 (pv (lv at_ vs) t = []) := ⟨by rw [pv_eq, if_neg (by rw [hp]; decide)]⟩
  have HTV : Aside0 (tv (lv at_ vs) t = lv at_ vs t) := ⟨by rw [tv_eq, if_neg (by rw [hp]; decide)]⟩
  have hBW : Below W.heap.size W (W.alloc (.cells (c41 t A c B d) 41)) := below_alloc (Below.refl _ _) _
  have X : T41 (W.alloc (.cells (c41 t A c B d) 41)) ⟨W.heap.size, 0, none⟩ t A c B d := T41.mk_box (w := W) (blk_new _ _) (hP.below (hI.below _ _ _ hInv)) hBW
  have HIV := Aside0.mk (hI.bel hInv hBW)
  have HLB := Aside0.mk hLB
  have HI := Aside0.mk hI
  have HBW := Aside0.mk hBW
  clear hBW hP hR hInv hLB hI hlv
  go_enter Tryd.func38, Tryd.ntmps38
  go_upto_region 1 with fail
  generalize hW : W.alloc (.cells (c41 t A c B d) 41) = W0 at *
  clear hW
  obtain ⟨k0, k1, k2, k3, k4, kl0, kln⟩ := X.box
  go_wp2_with (first
    | (go_at_call 30; refine (ts_own t A c B d _ h1 h2).mono ?_; rintro e w1 ⟨rfl, hb⟩; have X1 := X.below hb; obtain ⟨m0, m1, m2, m3, m4, ml0, mln⟩ := X1.box; have HIV1 := Aside0.mk (HI.out.bel HIV.out hb); have HBW1 := Aside0.mk (below_step HBW.out hb); clear hb; rw [hp])
    | (go_at_call 43; refine (leaf_43 w0 at_ vs bV bA t A c B d _ (HLB.out _ _ _ HIV1.out) X1.P p1 p2).mono ?_; rintro e w2 ⟨rfl, hb⟩; have HIV2 := Aside0.mk (HI.out.bel HIV1.out hb); have HBW2 := Aside0.mk (below_step HBW1.out hb); clear hb))
  go_ret
  rw [HPV.out, HTV.out, List.append_nil]
  exact ⟨rfl, v, HIV2.out, Upd.of_below HBW2.out, .inl rfl⟩

set_option maxRecDepth 100000 in
set_option maxHeartbeats 4000000 in
theorem ev_node_h (w0 : World) (at_ : List S41) (vs : List Bool) (bV bA bO m N0 : Nat) (hm6 : m ≤ 1000000) (E0 : Nat → Prop) (Inv : List Bool → Value → World → Prop) (hI : EvInv w0 N0 E0 Inv) (hPA : PART_h Inv w0 E0 bO m) (t : S41) (hp : isPart t.f0 = true)
    (ih : ∀ (k : Nat) (x : S41), t.f4[k]? = some x → EV_h w0 at_ vs bV bA bO m E0 Inv x) : EV_h w0 at_ vs bV bA bO m E0 Inv t := by
  intro A c B d out v0 W hP hR hlv hInv hm
  obtain ⟨⟨h1, h2⟩, hsub, hok⟩ := cparts_ok hR
  have HPV : Aside0 (pv (lv at_ vs) t = pvL (lv at_ vs) t.f4 ++ [hv t.f0 (tvL (lv at_ vs) t.f4)]) := ⟨by rw [pv_eq, if_pos hp]⟩
  have HTV : Aside0 (tv (lv at_ vs) t = hv t.f0 (tvL (lv at_ vs) t.f4)) := ⟨by rw [tv_eq, if_pos hp]⟩
  have HLV : Aside0 (∀ x ∈ t.f4, ∀ a ∈ leaves x, 0 ≤ posn at_ a ∧ posn at_ a < vs.length) := ⟨fun x hx a ha => hlv a (by rw [leaves_eq, if_pos hp]; exact leavesL_mem.2 ⟨x, hx, ha⟩)⟩
  have HOK := Aside0.mk hok
  have HIH := Aside0.mk ih
  have HSUB := Aside0.mk hsub
  have hk2 : t.f4.length ≤ 2 := by have : csN t.f0 ≤ 2 := by (unfold csN; (repeat' split) <;> omega)
                                   omega
  have HSZ : Aside0 (out.length + (t.f4.map csize).sum + 1 ≤ m) := ⟨by rw [csize_eq, csizeL_sum] at hm; omega⟩
  have hlb := hP.C2.2.1
  have hBW : Below W.heap.size W (W.alloc (.cells (c41 t A c B d) 41)) := below_alloc (Below.refl _ _) _
  have X : T41 (W.alloc (.cells (c41 t A c B d) 41)) ⟨W.heap.size, 0, none⟩ t A c B d := T41.mk_box (w := W) (blk_new _ _) (hP.below (hI.below _ _ _ hInv)) hBW
  have HP := Aside0.mk hP
  have HI := Aside0.mk hI
  have HPA := Aside0.mk hPA
  have HIV := Aside0.mk (hI.bel hInv hBW)
  have HLT := Aside0.mk (fun i => hI.lt _ _ _ i hInv)
  have HBW := Aside0.mk hBW
  have HXB0 := Aside0.mk (blk_new W (.cells (c41 t A c B d) 41))
  clear hBW hP hR hInv hI hlv hsub hok ih hm hPA
  go_enter Tryd.func38, Tryd.ntmps38
  go_upto_region 1 with fail
  generalize hW : W.alloc (.cells (c41 t A c B d) 41) = W0 at *
  clear hW
  obtain ⟨k0, k1, k2, k3, k4, kl0, kln⟩ := X.box
  go_wp2_with (first
    | (go_at_call 30; refine (ts_own t A c B d _ h1 h2).mono ?_; rintro e w1 ⟨rfl, hb⟩; have X1 := X.below hb; obtain ⟨m0, m1, m2, m3, m4, ml0, mln⟩ := X1.box; have HIV1 := Aside0.mk (HI.out.bel HIV.out hb); have HBW1 := Aside0.mk (below_step HBW.out hb); have HXB := Aside0.mk (blk_below HXB0.out hb); clear hb; rw [hp]))
  clear k0 k1 k2 k3 k4 kl0 kln X HIV
  have HX1 := Aside0.mk X1
  clear X1 m0 m1 m2 m3 m4 ml0 mln
  have HNB : Aside0 (∀ i, E0v E0 v0 i → w0.heap.size ≤ i ∧ i < W.heap.size) := ⟨fun i e => HLT.out i e⟩
  go_loopw [7, 20] (fun v7 i wr => EvRel (lv at_ vs) t.f4 w0 w1 E0 Inv out v0 v7 i wr) (fun _ i _ => t.f4.length - (intOf i).toNat)
  case atStart =>
    exact ⟨0, none, 0, v0, Nat.zero_le _, rfl, rfl, ⟨own_nil _ _ _ _⟩, ⟨by rw [List.take_zero, pvL, List.append_nil]; exact HIV1.out⟩, ⟨Upd.refl _ _⟩, ⟨.inl rfl⟩, ⟨fun i e => (Ev_nil i e).elim⟩⟩
  case round =>
    obtain ⟨k, As, cs, v, hk, rfl, rfl, HS, HIV, HU, HO, HD⟩ := hrel
    have HBk := Aside0.mk (HI.out.below _ _ _ HIV.out)
    by_cases hlt : k < t.f4.length
    · have hltb : decide (k < t.f4.length) = true := decide_eq_true hlt
      obtain ⟨x, ad, A3, c3, B3, d3, hx, rfl, Z0⟩ := at41 HP.out.C2 k hlt
      have Z := Z0.below HBk.out
      obtain ⟨z0, z1, z2, z3, z4, zl0, zln⟩ := Z.cells
      have HE := Aside0.mk (tvL_take (lv at_ vs) hx)
      have HE2 := Aside0.mk (pvL_take (lv at_ vs) hx)
      have HXL : Aside0 ((tvL (lv at_ vs) (t.f4.take k)).length = k) := ⟨by rw [tvL_map, List.length_map, List.length_take]; omega⟩
      have hWB : Below wr.heap.size wr (wr.alloc (.cells #[.int .i64 x.f0, .string x.f1, .string x.f2, .slice A3 x.f3.length c3, .slice B3 x.f4.length d3] 41)) := below_alloc (Below.refl _ _) _
      have hbound : (out ++ pvL (lv at_ vs) (t.f4.take k)).length + csize x ≤ m := by
        rw [List.length_append]
        have h3 := sumTo_step csize hx
        have h4 := sumTo_le csize t.f4 (k + 1)
        have h5 : (pvL (lv at_ vs) (t.f4.take k)).length ≤ sumTo csize t.f4 k := pvL_len _ _ _
        have := HSZ.out
        omega
      have HC := Aside0.mk (HIH.out k x hx A3 c3 B3 d3 _ v _ Z0.P (HOK.out k x hx) (HLV.out x (List.mem_of_getElem? hx)) (HI.out.bel HIV.out hWB) hbound)
      have HWB := Aside0.mk hWB
      clear hx Z0 hWB hbound
      generalize hst : tvL (lv at_ vs) (t.f4.take k) = R at *
      generalize htt : tv (lv at_ vs) x = b at *
      go_wp2_with (first
        | (go_at_call 38; refine HC.out.mono ?_; rintro e w2 ⟨rfl, v2, hi2, hu2, ho2⟩; have HIV2 := Aside0.mk hi2; have HU2 := Aside0.mk hu2; have HO2 := Aside0.mk ho2; clear hi2 hu2 ho2)
        | (have hx1 : w2.ownsRow w1.heap.size 4 1 (.slice As k cs) R.length (bls R) := (by
             rw [HXL.out]
             exact own_move (own_move HS.out (fun i hi => HWB.out.block i (own_lt HS.out i hi))) (fun i hi => HU2.out.block i (Nat.lt_of_lt_of_le (own_lt HS.out i hi) HWB.out.size) (fun e => e.elim (fun e => by have h9 := own_base HS.out i hi; have h8 := (HNB.out i (.inl e)).2; have h7 := HBW1.out.size; omega) (fun e => HD.out i hi e))))
           have HX1_ := Aside0.mk hx1
           clear hx1
           at_builtin
           refine print_append_of (w0 := w2) Value.bool w1.heap.size rfl (.tmp 24) (.tmp 29) 34 4 (.bool false) 1 rfl Tryd.underlying34 info4 rfl (by omega) (.slice As k cs) R b rfl rfl rfl HX1_.out (Below.refl _ _) (Nat.le_trans HU.out.size (Nat.le_trans HWB.out.size HU2.out.size)) (by have := HXL.out; omega) ?_
           intro v3 w3 ho3 hb3 hg3 hat3
           have HX3 := Aside0.mk ho3
           have HG3 := Aside0.mk hg3
           have HT3 := Aside0.mk hat3
           clear ho3 hb3 hg3 hat3))
      have hlen : (R ++ [b]).length = k + 1 := by rw [List.length_append, HXL.out]; rfl
      have hx3 := HX3.out
      rw [hlen] at hx3
      obtain ⟨A4, c4, rfl⟩ := own_slice hx3
      have hdis : ∀ i, Ev (.slice As k cs) i → ¬ Ev v2 i := fun i hi e => by
        rcases HO2.out with h9 | ⟨b9, hb9, hle9⟩
        · exact HD.out i hi (h9.symm.trans e)
        · have : b9 = i := by rw [show v2.ownBlock = some i from e] at hb9; injection hb9 with hb9; exact hb9.symm
          have := own_lt HS.out i hi
          have := HWB.out.size
          omega
      have hdis3 : ∀ i, Ev (.slice A4 (k + 1) c4) i → ¬ Ev v2 i := fun i hi e => by
        rcases HT3.out with h9 | ⟨b9, hb9, hle9⟩
        · exact hdis i (h9.symm.trans hi) e
        · have : b9 = i := by rw [show (Value.slice A4 (k + 1) c4).ownBlock = some i from hi] at hb9; injection hb9 with hb9; exact hb9.symm
          have := (HI.out.lt _ _ _ i HIV2.out (.inr e)).2
          omega
      refine ⟨?_, by simp [intOf]; omega⟩
      refine ⟨k + 1, A4, c4, v2, by omega, by go_num, by first | rfl | go_num, ⟨by rw [HE.out]; exact hx3⟩, ⟨?_⟩, ⟨?_⟩, ⟨HO.out.trans HO2.out (Nat.le_trans HU.out.size HWB.out.size)⟩, ⟨hdis3⟩⟩
      · rw [HE2.out, ← List.append_assoc]
        refine HI.out.upd _ _ _ _ HIV2.out ?_
        exact (Upd.refl (fun i => N0 ≤ i ∧ ¬ Ev v2 i) w2).grown HG3.out (fun r e _ => ⟨by have h9 := own_base HX1_.out r e; have h8 := HI.out.size _ _ _ HIV1.out; omega, hdis r e⟩)
      · exact (((HU.out.trans (Upd.of_below HWB.out)).ownE HO.out HU2.out).grown HG3.out (fun r e hlt => absurd (own_base HX1_.out r e) (by omega)))
    · have hltb : decide (k < t.f4.length) = false := decide_eq_false hlt
      have htk : t.f4.take k = t.f4 := List.take_of_length_le (by omega)
      have hkk : k = t.f4.length := by omega
      rw [htk] at HS HIV
      have hXk : wr.heap[W.heap.size]? = some (.cells (c41 t A c B d) 41 (0, 0)) := HU.out.blk HXB.out (fun e => by have := (HNB.out _ e).2; omega)
      have o0 : wr.cell? ⟨W.heap.size, 0, none⟩ = some (.int .i64 t.f0) := blk_cell hXk 0
      have ol := blk_lt hXk
      subst hkk
      obtain ⟨q1, q2, q3⟩ := bls_C HS.out
      have HQ := Aside0.mk (ts_holds t.f0 (tvL (lv at_ vs) t.f4) As cs wr hp (by rw [q1]; exact HSUB.out) q3)
      rw [q1] at HQ
      have hpl : (out ++ pvL (lv at_ vs) t.f4).length < m := by
        rw [List.length_append]
        have h5 := pvL_len (lv at_ vs) t.f4 t.f4.length
        rw [List.take_length] at h5
        have h6 := sumTo_le csize t.f4 t.f4.length
        have := HSZ.out
        omega
      generalize htv : hv t.f0 (tvL (lv at_ vs) t.f4) = b at *
      clear hXk
      go_wp2_with (first
        | (go_at_call 67; refine HQ.out.mono ?_; rintro e w2 ⟨rfl, hb⟩; have HIV2 := Aside0.mk (HI.out.bel HIV.out hb); have HB2 := Aside0.mk hb; clear hb)
        | (go_at_call 44; refine (HPA.out b _ v w2 HIV2.out hpl).mono ?_; rintro e w3 ⟨rfl, v3, hi3, hu3, ho3⟩; have HIV3 := Aside0.mk hi3; have HU3 := Aside0.mk hu3; have HO3 := Aside0.mk ho3; clear hi3 hu3 ho3))
      go_ret
      rw [HPV.out, HTV.out, ← List.append_assoc]
      exact ⟨rfl, v3, HIV3.out, (Upd.of_below (E := E0v E0 v0) HBW1.out).trans ((HU.out.trans (Upd.of_below HB2.out)).ownE HO.out HU3.out), (OwnStep.trans (n := W.heap.size) (v1 := v0) (.inl rfl) HO.out HBW1.out.size).trans HO3.out (Nat.le_trans HBW1.out.size (Nat.le_trans HU.out.size HB2.out.size))⟩
theorem ev_all_h (w0 : World) (at_ : List S41) (vs : List Bool) (bV bA bO m N0 : Nat) (hm6 : m ≤ 1000000) (E0 : Nat → Prop) (Inv : List Bool → Value → World → Prop) (hI : EvInv w0 N0 E0 Inv) (hLB : ∀ out v W, Inv out v W → LeafBoxes w0 at_ vs bV bA W) (hPA : PART_h Inv w0 E0 bO m) (q : Nat) : ∀ t : S41, csize t ≤ q → EV_h w0 at_ vs bV bA bO m E0 Inv t := by
  induction q with
  | zero => intro t h; rw [csize_eq] at h; omega
  | succ q ih =>
    intro t hq
    cases hp : isPart t.f0 with
    | false => exact ev_leaf_h w0 at_ vs bV bA bO m N0 E0 Inv hI hLB t hp
    | true => exact ev_node_h w0 at_ vs bV bA bO m N0 hm6 E0 Inv hI hPA t hp (fun k x hx => ih x (by have := csize_sub hx; omega))

def PART_v (Inv : List Bool → Value → World → Prop) (w0 : World) (E0 : Nat → Prop) (bO m : Nat) : Prop := ∀ (b : Bool) (out : List Bool) (v : Value) (W : World), Inv out v W → out.length < m → Calls Tryd.prog 40 #[.bool b, .pointer (some ⟨bO, 0, none⟩)] W (EvOut w0 E0 Inv (out ++ [b]) (.tuple #[]) v W)
def EV_v (w0 : World) (at_ : List S41) (vs : List Bool) (bV bA bO m : Nat) (E0 : Nat → Prop) (Inv : List Bool → Value → World → Prop) (t : S41) : Prop := ∀ (A : Option Addr) (c : Nat) (B : Option Addr) (d : Nat) (out : List Bool) (v : Value) (W : World), P41 w0 t A c B d → cparts t = 0 →
  (∀ a ∈ leaves t, 0 ≤ posn at_ a ∧ posn at_ a < vs.length) → Inv out v W → out.length + csize t ≤ m →
  Calls Tryd.prog 38 #[v41 t A c B d, .func (.func 39) #[] #[.pointer (some ⟨bV, 0, none⟩), .pointer (some ⟨bA, 0, none⟩)], .func (.func 40) #[] #[.pointer (some ⟨bO, 0, none⟩)]] W (EvOut w0 E0 Inv (out ++ pv (lv at_ vs) t) (.bool (tv (lv at_ vs) t)) v W)

set_option maxRecDepth 100000 in
set_option maxHeartbeats 4000000 in
theorem ev_leaf_v (w0 : World) (at_ : List S41) (vs : List Bool) (bV bA bO m N0 : Nat) (E0 : Nat → Prop) (Inv : List Bool → Value → World → Prop) (hI : EvInv w0 N0 E0 Inv) (hLB : ∀ out v W, Inv out v W → LeafBoxes w0 at_ vs bV bA W) (t : S41) (hp : isPart t.f0 = false) : EV_v w0 at_ vs bV bA bO m E0 Inv t := by
  intro A c B d out v W hP hR hlv hInv hm
  obtain ⟨⟨h1, h2⟩, _, _⟩ := cparts_ok hR
  obtain ⟨p1, p2⟩ := hlv t (by rw [leaves_eq, if_neg (by rw [hp]; decide)]; simp)
  have HPV : Aside0 (pv (lv at_ vs) t = []) := ⟨by rw [pv_eq, if_neg (by rw [hp]; decide)]⟩
  have HTV : Aside0 (tv (lv at_ vs) t = lv at_ vs t) := ⟨by rw [tv_eq, if_neg (by rw [hp]; decide)]⟩
  have hBW : Below W.heap.size W (W.alloc (.cells (c41 t A c B d) 41)) := below_alloc (Below.refl _ _) _
  have X : T41 (W.alloc (.cells (c41 t A c B d) 41)) ⟨W.heap.size, 0, none⟩ t A c B d := T41.mk_box (w := W) (blk_new _ _) (hP.below (hI.below _ _ _ hInv)) hBW
  have HIV := Aside0.mk (hI.bel hInv hBW)
  have HLB := Aside0.mk hLB
  have HI := Aside0.mk hI
  have HBW := Aside0.mk hBW
  clear hBW hP hR hInv hLB hI hlv
  go_enter Tryd.func38, Tryd.ntmps38
  go_upto_region 1 with fail
  generalize hW : W.alloc (.cells (c41 t A c B d) 41) = W0 at *
  clear hW
  obtain ⟨k0, k1, k2, k3, k4, kl0, kln⟩ := X.box
  go_wp2_with (first
    | (go_at_call 30; refine (ts_own t A c B d _ h1 h2).mono ?_; rintro e w1 ⟨rfl, hb⟩; have X1 := X.below hb; obtain ⟨m0, m1, m2, m3, m4, ml0, mln⟩ := X1.box; have HIV1 := Aside0.mk (HI.out.bel HIV.out hb); have HBW1 := Aside0.mk (below_step HBW.out hb); clear hb; rw [hp])
    | (go_at_call 39; refine (leaf_39 w0 at_ vs bV bA t A c B d _ (HLB.out _ _ _ HIV1.out) X1.P p1 p2).mono ?_; rintro e w2 ⟨rfl, hb⟩; have HIV2 := Aside0.mk (HI.out.bel HIV1.out hb); have HBW2 := Aside0.mk (below_step HBW1.out hb); clear hb))
  go_ret
  rw [HPV.out, HTV.out, List.append_nil]
  exact ⟨rfl, v, HIV2.out, Upd.of_below HBW2.out, .inl rfl⟩

set_option maxRecDepth 100000 in
set_option maxHeartbeats 4000000 in
theorem ev_node_v (w0 : World) (at_ : List S41) (vs : List Bool) (bV bA bO m N0 : Nat) (hm6 : m ≤ 1000000) (E0 : Nat → Prop) (Inv : List Bool → Value → World → Prop) (hI : EvInv w0 N0 E0 Inv) (hPA : PART_v Inv w0 E0 bO m) (t : S41) (hp : isPart t.f0 = true)
    (ih : ∀ (k : Nat) (x : S41), t.f4[k]? = some x → EV_v w0 at_ vs bV bA bO m E0 Inv x) : EV_v w0 at_ vs bV bA bO m E0 Inv t := by
  intro A c B d out v0 W hP hR hlv hInv hm
  obtain ⟨⟨h1, h2⟩, hsub, hok⟩ := cparts_ok hR
  have HPV : Aside0 (pv (lv at_ vs) t = pvL (lv at_ vs) t.f4 ++ [hv t.f0 (tvL (lv at_ vs) t.f4)]) := ⟨by rw [pv_eq, if_pos hp]⟩
  have HTV : Aside0 (tv (lv at_ vs) t = hv t.f0 (tvL (lv at_ vs) t.f4)) := ⟨by rw [tv_eq, if_pos hp]⟩
  have HLV : Aside0 (∀ x ∈ t.f4, ∀ a ∈ leaves x, 0 ≤ posn at_ a ∧ posn at_ a < vs.length) := ⟨fun x hx a ha => hlv a (by rw [leaves_eq, if_pos hp]; exact leavesL_mem.2 ⟨x, hx, ha⟩)⟩
  have HOK := Aside0.mk hok
  have HIH := Aside0.mk ih
  have HSUB := Aside0.mk hsub
  have hk2 : t.f4.length ≤ 2 := by have : csN t.f0 ≤ 2 := by (unfold csN; (repeat' split) <;> omega)
                                   omega
  have HSZ : Aside0 (out.length + (t.f4.map csize).sum + 1 ≤ m) := ⟨by rw [csize_eq, csizeL_sum] at hm; omega⟩
  have hlb := hP.C2.2.1
  have hBW : Below W.heap.size W (W.alloc (.cells (c41 t A c B d) 41)) := below_alloc (Below.refl _ _) _
  have X : T41 (W.alloc (.cells (c41 t A c B d) 41)) ⟨W.heap.size, 0, none⟩ t A c B d := T41.mk_box (w := W) (blk_new _ _) (hP.below (hI.below _ _ _ hInv)) hBW
  have HP := Aside0.mk hP
  have HI := Aside0.mk hI
  have HPA := Aside0.mk hPA
  have HIV := Aside0.mk (hI.bel hInv hBW)
  have HLT := Aside0.mk (fun i => hI.lt _ _ _ i hInv)
  have HBW := Aside0.mk hBW
  have HXB0 := Aside0.mk (blk_new W (.cells (c41 t A c B d) 41))
  clear hBW hP hR hInv hI hlv hsub hok ih hm hPA
  go_enter Tryd.func38, Tryd.ntmps38
  go_upto_region 1 with fail
  generalize hW : W.alloc (.cells (c41 t A c B d) 41) = W0 at *
  clear hW
  obtain ⟨k0, k1, k2, k3, k4, kl0, kln⟩ := X.box
  go_wp2_with (first
    | (go_at_call 30; refine (ts_own t A c B d _ h1 h2).mono ?_; rintro e w1 ⟨rfl, hb⟩; have X1 := X.below hb; obtain ⟨m0, m1, m2, m3, m4, ml0, mln⟩ := X1.box; have HIV1 := Aside0.mk (HI.out.bel HIV.out hb); have HBW1 := Aside0.mk (below_step HBW.out hb); have HXB := Aside0.mk (blk_below HXB0.out hb); clear hb; rw [hp]))
  clear k0 k1 k2 k3 k4 kl0 kln X HIV
  have HX1 := Aside0.mk X1
  clear X1 m0 m1 m2 m3 m4 ml0 mln
  have HNB : Aside0 (∀ i, E0v E0 v0 i → w0.heap.size ≤ i ∧ i < W.heap.size) := ⟨fun i e => HLT.out i e⟩
  go_loopw [7, 20] (fun v7 i wr => EvRel (lv at_ vs) t.f4 w0 w1 E0 Inv out v0 v7 i wr) (fun _ i _ => t.f4.length - (intOf i).toNat)
  case atStart =>
    exact ⟨0, none, 0, v0, Nat.zero_le _, rfl, rfl, ⟨own_nil _ _ _ _⟩, ⟨by rw [List.take_zero, pvL, List.append_nil]; exact HIV1.out⟩, ⟨Upd.refl _ _⟩, ⟨.inl rfl⟩, ⟨fun i e => (Ev_nil i e).elim⟩⟩
  case round =>
    obtain ⟨k, As, cs, v, hk, rfl, rfl, HS, HIV, HU, HO, HD⟩ := hrel
    have HBk := Aside0.mk (HI.out.below _ _ _ HIV.out)
    by_cases hlt : k < t.f4.length
    · have hltb : decide (k < t.f4.length) = true := decide_eq_true hlt
      obtain ⟨x, ad, A3, c3, B3, d3, hx, rfl, Z0⟩ := at41 HP.out.C2 k hlt
      have Z := Z0.below HBk.out
      obtain ⟨z0, z1, z2, z3, z4, zl0, zln⟩ := Z.cells
      have HE := Aside0.mk (tvL_take (lv at_ vs) hx)
      have HE2 := Aside0.mk (pvL_take (lv at_ vs) hx)
      have HXL : Aside0 ((tvL (lv at_ vs) (t.f4.take k)).length = k) := ⟨by rw [tvL_map, List.length_map, List.length_take]; omega⟩
      have hWB : Below wr.heap.size wr (wr.alloc (.cells #[.int .i64 x.f0, .string x.f1, .string x.f2, .slice A3 x.f3.length c3, .slice B3 x.f4.length d3] 41)) := below_alloc (Below.refl _ _) _
      have hbound : (out ++ pvL (lv at_ vs) (t.f4.take k)).length + csize x ≤ m := by
        rw [List.length_append]
        have h3 := sumTo_step csize hx
        have h4 := sumTo_le csize t.f4 (k + 1)
        have h5 : (pvL (lv at_ vs) (t.f4.take k)).length ≤ sumTo csize t.f4 k := pvL_len _ _ _
        have := HSZ.out
        omega
      have HC := Aside0.mk (HIH.out k x hx A3 c3 B3 d3 _ v _ Z0.P (HOK.out k x hx) (HLV.out x (List.mem_of_getElem? hx)) (HI.out.bel HIV.out hWB) hbound)
      have HWB := Aside0.mk hWB
      clear hx Z0 hWB hbound
      generalize hst : tvL (lv at_ vs) (t.f4.take k) = R at *
      generalize htt : tv (lv at_ vs) x = b at *
      go_wp2_with (first
        | (go_at_call 38; refine HC.out.mono ?_; rintro e w2 ⟨rfl, v2, hi2, hu2, ho2⟩; have HIV2 := Aside0.mk hi2; have HU2 := Aside0.mk hu2; have HO2 := Aside0.mk ho2; clear hi2 hu2 ho2)
        | (have hx1 : w2.ownsRow w1.heap.size 4 1 (.slice As k cs) R.length (bls R) := (by
             rw [HXL.out]
             exact own_move (own_move HS.out (fun i hi => HWB.out.block i (own_lt HS.out i hi))) (fun i hi => HU2.out.block i (Nat.lt_of_lt_of_le (own_lt HS.out i hi) HWB.out.size) (fun e => e.elim (fun e => by have h9 := own_base HS.out i hi; have h8 := (HNB.out i (.inl e)).2; have h7 := HBW1.out.size; omega) (fun e => HD.out i hi e))))
           have HX1_ := Aside0.mk hx1
           clear hx1
           at_builtin
           refine print_append_of (w0 := w2) Value.bool w1.heap.size rfl (.tmp 24) (.tmp 29) 34 4 (.bool false) 1 rfl Tryd.underlying34 info4 rfl (by omega) (.slice As k cs) R b rfl rfl rfl HX1_.out (Below.refl _ _) (Nat.le_trans HU.out.size (Nat.le_trans HWB.out.size HU2.out.size)) (by have := HXL.out; omega) ?_
           intro v3 w3 ho3 hb3 hg3 hat3
           have HX3 := Aside0.mk ho3
           have HG3 := Aside0.mk hg3
           have HT3 := Aside0.mk hat3
           clear ho3 hb3 hg3 hat3))
      have hlen : (R ++ [b]).length = k + 1 := by rw [List.length_append, HXL.out]; rfl
      have hx3 := HX3.out
      rw [hlen] at hx3
      obtain ⟨A4, c4, rfl⟩ := own_slice hx3
      have hdis : ∀ i, Ev (.slice As k cs) i → ¬ Ev v2 i := fun i hi e => by
        rcases HO2.out with h9 | ⟨b9, hb9, hle9⟩
        · exact HD.out i hi (h9.symm.trans e)
        · have : b9 = i := by rw [show v2.ownBlock = some i from e] at hb9; injection hb9 with hb9; exact hb9.symm
          have := own_lt HS.out i hi
          have := HWB.out.size
          omega
      have hdis3 : ∀ i, Ev (.slice A4 (k + 1) c4) i → ¬ Ev v2 i := fun i hi e => by
        rcases HT3.out with h9 | ⟨b9, hb9, hle9⟩
        · exact hdis i (h9.symm.trans hi) e
        · have : b9 = i := by rw [show (Value.slice A4 (k + 1) c4).ownBlock = some i from hi] at hb9; injection hb9 with hb9; exact hb9.symm
          have := (HI.out.lt _ _ _ i HIV2.out (.inr e)).2
          omega
      refine ⟨?_, by simp [intOf]; omega⟩
      refine ⟨k + 1, A4, c4, v2, by omega, by go_num, by first | rfl | go_num, ⟨by rw [HE.out]; exact hx3⟩, ⟨?_⟩, ⟨?_⟩, ⟨HO.out.trans HO2.out (Nat.le_trans HU.out.size HWB.out.size)⟩, ⟨hdis3⟩⟩
      · rw [HE2.out, ← List.append_assoc]
        refine HI.out.upd _ _ _ _ HIV2.out ?_
        exact (Upd.refl (fun i => N0 ≤ i ∧ ¬ Ev v2 i) w2).grown HG3.out (fun r e _ => ⟨by have h9 := own_base HX1_.out r e; have h8 := HI.out.size _ _ _ HIV1.out; omega, hdis r e⟩)
      · exact (((HU.out.trans (Upd.of_below HWB.out)).ownE HO.out HU2.out).grown HG3.out (fun r e hlt => absurd (own_base HX1_.out r e) (by omega)))
    · have hltb : decide (k < t.f4.length) = false := decide_eq_false hlt
      have htk : t.f4.take k = t.f4 := List.take_of_length_le (by omega)
      have hkk : k = t.f4.length := by omega
      rw [htk] at HS HIV
      have hXk : wr.heap[W.heap.size]? = some (.cells (c41 t A c B d) 41 (0, 0)) := HU.out.blk HXB.out (fun e => by have := (HNB.out _ e).2; omega)
      have o0 : wr.cell? ⟨W.heap.size, 0, none⟩ = some (.int .i64 t.f0) := blk_cell hXk 0
      have ol := blk_lt hXk
      subst hkk
      obtain ⟨q1, q2, q3⟩ := bls_C HS.out
      have HQ := Aside0.mk (ts_holds t.f0 (tvL (lv at_ vs) t.f4) As cs wr hp (by rw [q1]; exact HSUB.out) q3)
      rw [q1] at HQ
      have hpl : (out ++ pvL (lv at_ vs) t.f4).length < m := by
        rw [List.length_append]
        have h5 := pvL_len (lv at_ vs) t.f4 t.f4.length
        rw [List.take_length] at h5
        have h6 := sumTo_le csize t.f4 t.f4.length
        have := HSZ.out
        omega
      generalize htv : hv t.f0 (tvL (lv at_ vs) t.f4) = b at *
      clear hXk
      go_wp2_with (first
        | (go_at_call 67; refine HQ.out.mono ?_; rintro e w2 ⟨rfl, hb⟩; have HIV2 := Aside0.mk (HI.out.bel HIV.out hb); have HB2 := Aside0.mk hb; clear hb)
        | (go_at_call 40; refine (HPA.out b _ v w2 HIV2.out hpl).mono ?_; rintro e w3 ⟨rfl, v3, hi3, hu3, ho3⟩; have HIV3 := Aside0.mk hi3; have HU3 := Aside0.mk hu3; have HO3 := Aside0.mk ho3; clear hi3 hu3 ho3))
      go_ret
      rw [HPV.out, HTV.out, ← List.append_assoc]
      exact ⟨rfl, v3, HIV3.out, (Upd.of_below (E := E0v E0 v0) HBW1.out).trans ((HU.out.trans (Upd.of_below HB2.out)).ownE HO.out HU3.out), (OwnStep.trans (n := W.heap.size) (v1 := v0) (.inl rfl) HO.out HBW1.out.size).trans HO3.out (Nat.le_trans HBW1.out.size (Nat.le_trans HU.out.size HB2.out.size))⟩
theorem ev_all_v (w0 : World) (at_ : List S41) (vs : List Bool) (bV bA bO m N0 : Nat) (hm6 : m ≤ 1000000) (E0 : Nat → Prop) (Inv : List Bool → Value → World → Prop) (hI : EvInv w0 N0 E0 Inv) (hLB : ∀ out v W, Inv out v W → LeafBoxes w0 at_ vs bV bA W) (hPA : PART_v Inv w0 E0 bO m) (q : Nat) : ∀ t : S41, csize t ≤ q → EV_v w0 at_ vs bV bA bO m E0 Inv t := by
  induction q with
  | zero => intro t h; rw [csize_eq] at h; omega
  | succ q ih =>
    intro t hq
    cases hp : isPart t.f0 with
    | false => exact ev_leaf_v w0 at_ vs bV bA bO m N0 E0 Inv hI hLB t hp
    | true => exact ev_node_v w0 at_ vs bV bA bO m N0 hm6 E0 Inv hI hPA t hp (fun k x hx => ih x (by have := csize_sub hx; omega))
end Go.Proofs.YtbfgoopomfenjaaDoor
