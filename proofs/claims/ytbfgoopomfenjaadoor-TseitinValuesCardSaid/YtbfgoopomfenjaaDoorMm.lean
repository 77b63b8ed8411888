import Derived.Test.YtbfgoopomfenjaaDoorMk
import Derived.Test.YtbfgoopomfenjaaDoorMn
import Derived.Test.YtbfgoopomfenjaaDoorMj
import Derived.Lib.SliceRun
namespace Go.Proofs.YtbfgoopomfenjaaDoor
open Go.RowKit Go.Proofs.YtbfgoopomfenjaaDoorW.PrintWords Go.Proofs.YtbfgoopomfenjaaDoorW.PrintLast Go.Proofs.YtbfgoopomfenjaaDoor.PTseitinValues
set_option linter.unusedVariables false
set_option linter.unusedSimpArgs false
attribute [local go_sem] World.cell?_alloc_lt
attribute [local go_sem] run_store_fn

/-- What all leaves. -/
def AllOut (w0 : World) (out' : List Bool) (v : Value) (W : World) (e : Ending) (W' : World) : Prop :=
  ∃ A1 c1, e = .returned (.slice A1 out'.length c1) ∧ W'.ownsRow w0.heap.size 4 1 (.slice A1 out'.length c1) out'.length (bls out') ∧ Upd (Ev v) W W' ∧ OwnStep W.heap.size v (.slice A1 out'.length c1)
def RAL (w0 : World) (at_ : List S41) (vs : List Bool) (t : S41) : Prop := ∀ (A : Option Addr) (c : Nat) (B : Option Addr) (d : Nat) (Aa : Option Addr) (ca : Nat) (Av : Option Addr) (cv : Nat) (out : List Bool) (Ao : Option Addr) (co : Nat) (W : World), P41 w0 t A c B d → Below w0.heap.size w0 W → cparts t = 0 →
  (∀ a ∈ leaves t, 0 ≤ posn at_ a ∧ posn at_ a < vs.length) → AT w0 W (.slice Aa at_.length ca) at_ → at_.length ≤ 1000000 → kB.C w0 Av vs.length vs → W.ownsRow w0.heap.size 4 1 (.slice Ao out.length co) out.length (bls out) → out.length + csize t ≤ 1000000 →
  Calls Tryd.prog 41 #[.slice Ao out.length co, v41 t A c B d, .slice Aa at_.length ca, .slice Av vs.length cv] W (AllOut w0 (out ++ pv (lv at_ vs) t) (.slice Ao out.length co) W)

set_option maxRecDepth 100000 in
set_option maxHeartbeats 4000000 in
theorem ral_leaf (w0 : World) (at_ : List S41) (vs : List Bool) (t : S41) (hp : isPart t.f0 = false) : RAL w0 at_ vs t := by
  intro A c B d Aa ca Av cv out Ao co W hP hB hR hlv hAT hal hVC hO hm
  obtain ⟨⟨h1, h2⟩, _, _⟩ := cparts_ok hR
  have HPV : Aside0 (pv (lv at_ vs) t = []) := ⟨by rw [pv_eq, if_neg (by rw [hp]; decide)]⟩
  have hBW : Below W.heap.size W (W.alloc (.cells (c41 t A c B d) 41)) := below_alloc (Below.refl _ _) _
  have X : T41 (W.alloc (.cells (c41 t A c B d) 41)) ⟨W.heap.size, 0, none⟩ t A c B d := T41.mk_box (w := W) (blk_new _ _) (hP.below hB) hBW
  have HO := Aside0.mk (pw_own_below hO hBW)
  have HBW := Aside0.mk hBW
  clear hBW hP hR hlv hAT hVC hO
  go_enter Tryd.func41, Tryd.ntmps41
  go_upto_region 1 with fail
  generalize hW : W.alloc (.cells (c41 t A c B d) 41) = W0 at *
  clear hW
  obtain ⟨k0, k1, k2, k3, k4, kl0, kln⟩ := X.box
  go_wp2_with (first
    | (go_at_call 64; refine (ref_part t A c B d _ h1 h2).mono ?_; rintro e w1 ⟨rfl, hb⟩; have HB1 := Aside0.mk (below_step HBW.out hb); have HO1 := Aside0.mk (pw_own_below HO.out hb); clear hb; rw [hp]))
  go_ret
  rw [HPV.out, List.append_nil]
  exact ⟨Ao, co, rfl, HO1.out, Upd.of_below HB1.out, .inl rfl⟩

/-- What is out so far. -/
def AllRel (g : S41 → Bool) (us : List S41) (w0 W1 : World) (out : List Bool) (v0 v i : Value) (wr : World) : Prop :=
  ∃ k A1 c1, k ≤ us.length ∧ i = .int .i64 (k : Nat) ∧ v = .slice A1 (out ++ pvL g (us.take k)).length c1 ∧
    Aside0 (wr.ownsRow w0.heap.size 4 1 (.slice A1 (out ++ pvL g (us.take k)).length c1) (out ++ pvL g (us.take k)).length (bls (out ++ pvL g (us.take k)))) ∧ Aside0 (Upd (Ev v0) W1 wr) ∧ Aside0 (OwnStep W1.heap.size v0 (.slice A1 (out ++ pvL g (us.take k)).length c1))

set_option maxRecDepth 100000 in
set_option maxHeartbeats 4000000 in
theorem ral_node (w0 : World) (at_ : List S41) (vs : List Bool) (t : S41) (hp : isPart t.f0 = true) (ih : ∀ (k : Nat) (x : S41), t.f4[k]? = some x → RAL w0 at_ vs x) : RAL w0 at_ vs t := by
  intro A c B d Aa ca Av cv out Ao co W hP hB hR hlv hAT hal hVC hO hm
  obtain ⟨⟨h1, h2⟩, hsub, hok⟩ := cparts_ok hR
  have HPV : Aside0 (pv (lv at_ vs) t = pvL (lv at_ vs) t.f4 ++ [tv (lv at_ vs) t]) := ⟨by rw [pv_eq, if_pos hp, tv_eq, if_pos hp]⟩
  have HLV : Aside0 (∀ x ∈ t.f4, ∀ a ∈ leaves x, 0 ≤ posn at_ a ∧ posn at_ a < vs.length) := ⟨fun x hx a ha => hlv a (by rw [leaves_eq, if_pos hp]; exact leavesL_mem.2 ⟨x, hx, ha⟩)⟩
  have HLV0 := Aside0.mk hlv
  have HOK := Aside0.mk hok
  have HIH := Aside0.mk ih
  have HR0 := Aside0.mk hR
  have hk2 : t.f4.length ≤ 2 := by have : csN t.f0 ≤ 2 := by (unfold csN; (repeat' split) <;> omega)
                                   omega
  have HSZ : Aside0 (out.length + (t.f4.map csize).sum + 1 ≤ 1000000) := ⟨by rw [csize_eq, csizeL_sum] at hm; omega⟩
  have hlb := hP.C2.2.1
  have hBW : Below W.heap.size W (W.alloc (.cells (c41 t A c B d) 41)) := below_alloc (Below.refl _ _) _
  have X : T41 (W.alloc (.cells (c41 t A c B d) 41)) ⟨W.heap.size, 0, none⟩ t A c B d := T41.mk_box (w := W) (blk_new _ _) (hP.below hB) hBW
  have HNA : Aside0 (∀ i, Ev (.slice Aa at_.length ca) i → ¬ Ev (.slice Ao out.length co) i) := ⟨fun i hi e => by obtain ⟨_, o1, _⟩ := hAT; exact own_types o1 hO (by decide) i hi e⟩
  have HNB : Aside0 (∀ i, Ev (.slice Ao out.length co) i → w0.heap.size ≤ i ∧ i < W.heap.size) := ⟨fun i e => ⟨own_base hO i e, own_lt hO i e⟩⟩
  have HP := Aside0.mk hP
  have HB := Aside0.mk (hB.trans (hBW.mono hB.size))
  have HAT := Aside0.mk (hAT.upd (Upd.of_below (E := fun _ => False) hBW) (fun _ _ h => h))
  have HVC := Aside0.mk hVC
  have HO := Aside0.mk (pw_own_below hO hBW)
  have HBW := Aside0.mk hBW
  have HXB0 := Aside0.mk (blk_new W (.cells (c41 t A c B d) 41))
  have hol : out.length ≤ 1000000 := by omega
  clear hBW hP hB hR hlv hAT hVC hO hsub hok ih hm
  go_enter Tryd.func41, Tryd.ntmps41
  go_upto_region 1 with fail
  generalize hW : W.alloc (.cells (c41 t A c B d) 41) = W0 at *
  clear hW
  obtain ⟨k0, k1, k2, k3, k4, kl0, kln⟩ := X.box
  go_wp2_with (first
    | (go_at_call 64; refine (ref_part t A c B d _ h1 h2).mono ?_; rintro e w1 ⟨rfl, hb⟩; have X1 := X.below hb; have HB1 := Aside0.mk (HB.out.trans (hb.mono HB.out.size)); have HAT1 := Aside0.mk (HAT.out.upd (Upd.of_below (E := fun _ => False) hb) (fun _ _ h => h)); have HO1 := Aside0.mk (pw_own_below HO.out hb); have HBW1 := Aside0.mk (below_step HBW.out hb); have HXB := Aside0.mk (blk_below HXB0.out hb); clear hb; rw [hp]))
  clear k0 k1 k2 k3 k4 kl0 kln X HAT HB HO X1
  go_loopw [0, 9] (fun v i wr => AllRel (lv at_ vs) t.f4 w0 w1 out (.slice Ao out.length co) v i wr) (fun _ i _ => t.f4.length - (intOf i).toNat)
  case atStart =>
    refine ⟨0, Ao, co, Nat.zero_le _, rfl, by rw [List.take_zero, pvL, List.append_nil], ⟨?_⟩, ⟨Upd.refl _ _⟩, ⟨?_⟩⟩
    · rw [List.take_zero, pvL, List.append_nil]; exact HO1.out
    · rw [List.take_zero, pvL, List.append_nil]; exact .inl rfl
  case round =>
    obtain ⟨k, A1, c1, hk, rfl, rfl, HO, HU, HS⟩ := hrel
    have HBk := Aside0.mk (HB1.out.trans (HU.out.below HB1.out.size (fun i e => (HNB.out i e).1)))
    have HXk : Aside0 (wr.heap[W.heap.size]? = some (.cells (c41 t A c B d) 41 (0, 0))) := ⟨HU.out.blk HXB.out (fun e => by have := (HNB.out _ e).2; omega)⟩
    have HATk := Aside0.mk (HAT1.out.upd HU.out HNA.out)
    have m4 := blk_cell HXk.out 4
    have ml := blk_lt HXk.out
    by_cases hlt : k < t.f4.length
    · have hltb : decide (k < t.f4.length) = true := decide_eq_true hlt
      obtain ⟨x, ad, A3, c3, B3, d3, hx, rfl, Z0⟩ := at41 HP.out.C2 k hlt
      have Z := Z0.below HBk.out
      obtain ⟨z0, z1, z2, z3, z4, zl0, zln⟩ := Z.cells
      have HE2 := Aside0.mk (pvL_take (lv at_ vs) hx)
      have hbound : (out ++ pvL (lv at_ vs) (t.f4.take k)).length + csize x ≤ 1000000 := by
        rw [List.length_append]
        have h3 := sumTo_step csize hx
        have h4 := sumTo_le csize t.f4 (k + 1)
        have h5 : (pvL (lv at_ vs) (t.f4.take k)).length ≤ sumTo csize t.f4 k := pvL_len _ _ _
        have := HSZ.out
        omega
      have HC := Aside0.mk (HIH.out k x hx A3 c3 B3 d3 Aa ca Av cv (out ++ pvL (lv at_ vs) (t.f4.take k)) A1 c1 wr Z0.P HBk.out (HOK.out k x hx) (HLV.out x (List.mem_of_getElem? hx)) HATk.out hal HVC.out HO.out hbound)
      clear hx Z0 hbound
      generalize hst : out ++ pvL (lv at_ vs) (t.f4.take k) = R at *
      go_wp2_with (first
        | (go_at_call 41; refine HC.out.mono ?_; rintro e w2 ⟨A2, c2, rfl, ho2, hu2, hs2⟩; have HO2 := Aside0.mk ho2; have HU2 := Aside0.mk hu2; have HS2 := Aside0.mk hs2; clear ho2 hu2 hs2))
      refine ⟨?_, by simp [intOf]; omega⟩
      have hE3 : out ++ pvL (lv at_ vs) (t.f4.take (k + 1)) = R ++ pv (lv at_ vs) x := by rw [HE2.out, ← List.append_assoc, hst]
      exact ⟨k + 1, A2, c2, by omega, by go_num, by rw [hE3]; (first | rfl | simp), ⟨by rw [hE3]; exact HO2.out⟩, ⟨HU.out.own HS.out HU2.out⟩, ⟨by rw [hE3]; exact HS.out.trans HS2.out HU.out.size⟩⟩
    · have hltb : decide (k < t.f4.length) = false := decide_eq_false hlt
      have htk : t.f4.take k = t.f4 := List.take_of_length_le (by omega)
      rw [htk] at HO HS ⊢
      have Xr : T41 wr ⟨W.heap.size, 0, none⟩ t A c B d := T41.of_blk HXk.out (HP.out.below HBk.out)
      obtain ⟨n0, n1, n2, n3, n4, nl0, nln⟩ := Xr.box
      obtain ⟨_, _, hra⟩ := HATk.out.RA
      have HQ := Aside0.mk (ref_True w0 at_ vs t A c B d Aa ca Av cv wr HP.out HBk.out HR0.out HLV0.out hra hal (Kd.C_below HVC.out HBk.out))
      have hpl : (out ++ pvL (lv at_ vs) t.f4).length ≤ 999999 := by
        rw [List.length_append]
        have h5 := pvL_len (lv at_ vs) t.f4 t.f4.length
        rw [List.take_length] at h5
        have h6 := sumTo_le csize t.f4 t.f4.length
        have := HSZ.out
        omega
      clear hra Xr m4
      generalize htv : tv (lv at_ vs) t = b at *
      generalize hst : out ++ pvL (lv at_ vs) t.f4 = R at *
      go_wp2_with (first
        | (go_at_call 46; refine HQ.out.mono ?_; rintro e w2 ⟨rfl, hb⟩; have HB2 := Aside0.mk hb; have HO2 := Aside0.mk (pw_own_below HO.out hb); clear hb)
        | (at_builtin
           refine print_append_of (w0 := w2) Value.bool w0.heap.size rfl (.tmp 30) (.tmp 35) 34 4 (.bool false) 1 rfl Tryd.underlying34 info4 rfl (by omega) (.slice A1 R.length c1) R b rfl rfl rfl HO2.out (Below.refl _ _) (Nat.le_trans HBk.out.size HB2.out.size) (by omega) ?_
           intro v3 w3 ho3 hb3 hg3 hat3
           have HO3 := Aside0.mk ho3
           have HG3 := Aside0.mk hg3
           have HT3 := Aside0.mk hat3
           clear ho3 hb3 hg3 hat3))
      go_ret
      obtain ⟨A4, c4, rfl⟩ := own_slice HO3.out
      have hE3 : out ++ pv (lv at_ vs) t = R ++ [b] := by rw [HPV.out, ← List.append_assoc, hst]
      rw [hE3]
      exact ⟨A4, c4, rfl, HO3.out, (Upd.of_below (E := Ev (.slice Ao out.length co)) HBW1.out).trans ((HU.out.own HS.out ((Upd.of_below HB2.out).grown HG3.out (fun r e _ => e)))), (OwnStep.trans (n := W.heap.size) (v1 := .slice Ao out.length co) (.inl rfl) HS.out HBW1.out.size).trans HT3.out (Nat.le_trans HBW1.out.size (Nat.le_trans HU.out.size HB2.out.size))⟩
theorem ral_all (w0 : World) (at_ : List S41) (vs : List Bool) (q : Nat) : ∀ t : S41, csize t ≤ q → RAL w0 at_ vs t := by
  induction q with
  | zero => intro t h; rw [csize_eq] at h; omega
  | succ q ih =>
    intro t hq
    cases hp : isPart t.f0 with
    | false => exact ral_leaf w0 at_ vs t hp
    | true => exact ral_node w0 at_ vs t hp (fun k x hx => ih x (by have := csize_sub hx; omega))
/-- sequiturref26.all. -/
theorem ref_all (w0 : World) (at_ : List S41) (vs : List Bool) (t : S41) : RAL w0 at_ vs t := ral_all w0 at_ vs _ t (Nat.le_refl _)
end Go.Proofs.YtbfgoopomfenjaaDoor
namespace Go.Proofs.YtbfgoopomfenjaaDoor
open Go.RowKit Go.Proofs.YtbfgoopomfenjaaDoorW.PrintWords Go.Proofs.YtbfgoopomfenjaaDoorW.PrintLast Go.Proofs.YtbfgoopomfenjaaDoor.PTseitinValues
set_option linter.unusedVariables false
set_option linter.unusedSimpArgs false
attribute [local go_sem] World.cell?_alloc_lt
attribute [local go_sem] run_store_fn

/-- What Values gives. -/
def valsB (cs : List S41) (vs : List Bool) : List Bool × Bool :=
  if (ofR cs).e = 0 ∧ (ofR cs).at_.length = vs.length then (vs ++ pvL (lv (ofR cs).at_ vs) cs, true) else ([], false)
def ValsOut (r : List Bool × Bool) (W : World) (e : Ending) (W' : World) : Prop :=
  ∃ A1 c1, e = .returned (.tuple #[.slice A1 r.1.length c1, .bool r.2]) ∧ r.1.length ≤ c1 ∧ kB.C W' A1 r.1.length r.1 ∧ Below W.heap.size W W'
/-- Where Of goes through: all are right, the atoms are theirs. -/
theorem ofR_ok {cs : List S41} (h : (ofR cs).e = 0) : (ofR cs).at_ = atomsL cs [] ∧ (∀ x ∈ cs, cright x = 0) ∧ (ofR cs).at_.length ≤ 1024 := by
  unfold ofR at h ⊢
  split at h
  · rename_i h1; exact absurd h h1
  · rename_i h1
    rw [if_neg h1]
    have h1 : firstNZ (cs.map cright) = 0 := Decidable.not_not.1 h1
    have key : ∀ (at_ cs : List S41) (st st' : LS), topR at_ cs st = some st' → st.n ≤ st'.n := by
      intro at_ cs
      induction cs with
      | nil => intro st st' h; rw [topR] at h; injection h with h; rw [h]; exact Nat.le_refl _
      | cons c cs ih =>
        intro st st' h
        rw [topR] at h
        split at h
        · cases h
        · have h3 := ih _ _ h
          have h4 := (layC_bound false at_ _ c st (Nat.le_refl _)).1
          exact Nat.le_trans h4 h3
    have h5 := key (atomsL cs []) cs ⟨(atomsL cs []).length, []⟩
    generalize topR (atomsL cs []) cs ⟨(atomsL cs []).length, []⟩ = o at h h5 ⊢
    cases o with
    | none => exact absurd h (show ¬ ((2 : Int) = 0) by decide)
    | some st =>
      have e : ofEnd (atomsL cs []) (some st) = if 1024 < st.n then tooLong else ⟨st.n, st.l, atomsL cs [], 0⟩ := rfl
      rw [e] at h ⊢
      by_cases h2 : 1024 < st.n
      · rw [if_pos h2] at h
        exact absurd h (show ¬ ((2 : Int) = 0) by decide)
      · rw [if_neg h2]
        have h6 : (atomsL cs []).length ≤ st.n := h5 st rfl
        refine ⟨rfl, fun x hx => firstNZ_zero.1 h1 _ (List.mem_map_of_mem hx), ?_⟩
        show (atomsL cs []).length ≤ 1024
        omega
theorem bools_reads {W : World} {A : Option Addr} {n : Nat} {xs : List Bool} (h : kB.C W A n xs) : ReadsOf Value.bool false W A n xs := by
  refine ⟨h.1, h.2.1, fun hn => ?_⟩
  obtain ⟨_, ad, _, rfl, _, _⟩ := atB h 0 hn
  refine ⟨ad, rfl, fun j hj => ?_⟩
  obtain ⟨x, ad', hx, he, hc, _⟩ := atB h j hj
  obtain rfl : ad = ad' := by injection he
  rw [hc, List.getD_eq_getElem?_getD, hx]
  rfl

set_option maxRecDepth 100000 in
set_option maxHeartbeats 4000000 in
/-- sequiturref26.Values. -/
theorem ref_Values (w0 : World) (cs : List S41) (A : Option Addr) (c : Nat) (vs : List Bool) (Av : Option Addr) (cv : Nat) (W : World) (hB : Below w0.heap.size w0 W) (hC : k41.C w0 A cs.length cs) (hVC : kB.C w0 Av vs.length vs) (hvl : vs.length ≤ 10000) (hs : ∀ x ∈ cs, csize x ≤ 4096) (hsum : (cs.map csize).sum ≤ 900000) :
    Calls Tryd.prog 16 #[.slice A cs.length c, .slice Av vs.length cv] W (ValsOut (valsB cs vs) W) := by
  have hla := hC.2.1
  have HQ := Aside0.mk (ref_Of w0 cs A c W hB hC hs hsum)
  have HC := Aside0.mk hC
  have HVC := Aside0.mk hVC
  have HB := Aside0.mk hB
  have HSUM := Aside0.mk hsum
  clear hC hVC hB hs hsum
  have HOK := Aside0.mk (@ofR_ok cs)
  have HV : Aside0 (valsB cs vs = if (ofR cs).e = 0 ∧ (ofR cs).at_.length = vs.length then (vs ++ pvL (lv (ofR cs).at_ vs) cs, true) else ([], false)) := ⟨rfl⟩
  generalize hr : ofR cs = r at *
  generalize hvr : valsB cs vs = V at *
  clear hvr
  by_cases he : r.e = 0
  · have heb : (r.e != 0) = false := by simpa using he
    obtain ⟨h1, h2, h3⟩ := HOK.out he
    by_cases hl : r.at_.length = vs.length
    · have hl1 : ((vs.length : Int) != (r.at_.length : Int)) = false := by rw [hl]; simp
      have HR : Aside0 (V = (vs ++ pvL (lv r.at_ vs) cs, true)) := ⟨HV.out.trans (if_pos ⟨he, hl⟩)⟩
      have HCP : Aside0 (∀ x ∈ cs, cparts x = 0) := ⟨fun x hx => by
        have h := h2 x hx
        unfold cright at h
        split at h
        · exact absurd h (by decide)
        · split at h
          · exact absurd h (by decide)
          · exact h⟩
      have HLV : Aside0 (∀ x ∈ cs, ∀ a ∈ leaves x, 0 ≤ posn r.at_ a ∧ posn r.at_ a < vs.length) := ⟨fun x hx a ha => by
        have h5 := ((atomsL_has HCP.out []).2 x hx a ha).posn
        rw [← h1, hl] at h5
        exact h5⟩
      have HAL := Aside0.mk h3
      have HL := Aside0.mk hl
      clear h1 h2 h3 HOK HV he hl
      go_enter Tryd.func16, Tryd.ntmps16
      go_upto_region 2 with (first | (go_at_call 12; refine HQ.out.mono ?_; rintro e w2 ⟨A1, c1, A2, c2, rfl, hle, hC2, hat, hb⟩; have HAT2 := Aside0.mk hat; have HB2 := Aside0.mk hb; clear hle hC2 hat hb))
      have hB3 : Below w2.heap.size w2 (w2.alloc (.cells #[.int .i64 r.n, .slice A1 r.l.length c1] 27)) := below_alloc (Below.refl _ _) _
      have HAT3 := Aside0.mk (HAT2.out.upd (Upd.of_below (E := fun _ => False) hB3) (fun _ _ h => h))
      have HB3 := Aside0.mk (below_step HB2.out hB3)
      clear hB3
      generalize hW : w2.alloc (.cells #[.int .i64 r.n, .slice A1 r.l.length c1] 27) = W3 at *
      clear hW
      have HB03 := Aside0.mk (HB.out.trans (HB3.out.mono HB.out.size))
      go_upto_region 6 with (first | (at_builtin; refine print_append_row_of (w0 := W3) Value.bool false w0.heap.size rfl (.tmp 26) (.tmp 27) 34 4 (.bool false) 1 rfl Tryd.underlying34 info4 rfl (by omega) (fun _ => rfl) (.slice none 0 0) [] vs Av vs.length cv rfl rfl (own_nil _ _ _ _) (bools_reads (Kd.C_below HVC.out HB03.out)) (Below.refl _ _) HB03.out.size (by simp; omega) ?_; intro v4 w4 ho4 hb4 hg4 hat4; have HO4 := Aside0.mk ho4; have HG4 := Aside0.mk hg4; have HT4 := Aside0.mk hat4; clear ho4 hb4 hg4 hat4))
      rw [List.nil_append] at HO4
      obtain ⟨A4, c4, rfl⟩ := own_slice HO4.out
      have HB4 := Aside0.mk (pw_below_grown HB03.out _ HB03.out.size HG4.out (fun k e => by cases e))
      have HBW4 := Aside0.mk (pw_below_grown HB3.out _ HB3.out.size HG4.out (fun k e => by cases e))
      have HAT4 := Aside0.mk (HAT3.out.upd ((Upd.refl (fun _ => False) W3).grown HG4.out (fun r e _ => by cases e)) (fun _ _ h => h))
      have HNA : Aside0 (∀ i, Ev (.slice A2 r.at_.length c2) i → ¬ Ev (.slice A4 vs.length c4) i) := ⟨fun i hi e => by obtain ⟨_, o1, _⟩ := HAT4.out; exact own_types o1 HO4.out (by decide) i hi e⟩
      have HNB : Aside0 (∀ i, Ev (.slice A4 vs.length c4) i → W3.heap.size ≤ i ∧ w0.heap.size ≤ i) := ⟨fun i e => ⟨by
        rcases HT4.out with h | ⟨b, hb, hle⟩
        · rw [show (Value.slice A4 vs.length c4).ownBlock = some i from e] at h; cases h
        · rw [show (Value.slice A4 vs.length c4).ownBlock = some i from e] at hb; injection hb with hb; omega, own_base HO4.out i e⟩⟩
      go_wp2_with fail
      go_loopw [9, 10] (fun v i wr => AllRel (lv r.at_ vs) cs w0 w4 vs (.slice A4 vs.length c4) v i wr) (fun _ i _ => cs.length - (intOf i).toNat)
      case atStart =>
        refine ⟨0, A4, c4, Nat.zero_le _, rfl, by rw [List.take_zero, pvL, List.append_nil], ⟨?_⟩, ⟨Upd.refl _ _⟩, ⟨?_⟩⟩
        · rw [List.take_zero, pvL, List.append_nil]; exact HO4.out
        · rw [List.take_zero, pvL, List.append_nil]; exact .inl rfl
      case round =>
        obtain ⟨k, A1', c1', hk, rfl, rfl, HO, HU, HS⟩ := hrel
        have HBk := Aside0.mk (HB4.out.trans (HU.out.below HB4.out.size (fun i e => (HNB.out i e).2)))
        have HATk := Aside0.mk (HAT4.out.upd HU.out HNA.out)
        by_cases hlt : k < cs.length
        · have hltb : decide (k < cs.length) = true := decide_eq_true hlt
          obtain ⟨x, ad, A3, c3, B3, d3, hx, rfl, Z0⟩ := at41 HC.out k hlt
          have Z := Z0.below HBk.out
          obtain ⟨z0, z1, z2, z3, z4, zl0, zln⟩ := Z.cells
          have HE2 := Aside0.mk (pvL_take (lv r.at_ vs) hx)
          have hbound : (vs ++ pvL (lv r.at_ vs) (cs.take k)).length + csize x ≤ 1000000 := by
            rw [List.length_append]
            have h3 := sumTo_step csize hx
            have h4 := sumTo_le csize cs (k + 1)
            have h5 : (pvL (lv r.at_ vs) (cs.take k)).length ≤ sumTo csize cs k := pvL_len _ _ _
            have := HSUM.out
            omega
          have HC1 := Aside0.mk (ref_all w0 r.at_ vs x A3 c3 B3 d3 A2 c2 Av cv (vs ++ pvL (lv r.at_ vs) (cs.take k)) A1' c1' wr Z0.P HBk.out (HCP.out x (List.mem_of_getElem? hx)) (HLV.out x (List.mem_of_getElem? hx)) HATk.out (by have := HAL.out; omega) HVC.out HO.out hbound)
          clear hx Z0 hbound
          generalize hst : vs ++ pvL (lv r.at_ vs) (cs.take k) = R at *
          go_wp2_with (first
            | (go_at_call 41; refine HC1.out.mono ?_; rintro e w5 ⟨A5, c5, rfl, ho2, hu2, hs2⟩; have HO2 := Aside0.mk ho2; have HU2 := Aside0.mk hu2; have HS2 := Aside0.mk hs2; clear ho2 hu2 hs2))
          refine ⟨?_, by simp [intOf]; omega⟩
          have hE3 : vs ++ pvL (lv r.at_ vs) (cs.take (k + 1)) = R ++ pv (lv r.at_ vs) x := by rw [HE2.out, ← List.append_assoc, hst]
          exact ⟨k + 1, A5, c5, by omega, by go_num, by rw [hE3]; (first | rfl | simp), ⟨by rw [hE3]; exact HO2.out⟩, ⟨HU.out.own HS.out HU2.out⟩, ⟨by rw [hE3]; exact HS.out.trans HS2.out HU.out.size⟩⟩
        · have hltb : decide (k < cs.length) = false := decide_eq_false hlt
          have htk : cs.take k = cs := List.take_of_length_le (by omega)
          rw [htk] at HO HS ⊢
          have HBe := Aside0.mk (HBW4.out.trans (HU.out.below HBW4.out.size (fun i e => Nat.le_trans HB3.out.size (HNB.out i e).1)))
          generalize hst : vs ++ pvL (lv r.at_ vs) cs = R at *
          obtain ⟨_, q2, q3⟩ := bls_C HO.out
          have HC9 := Aside0.mk q3
          clear q3
          go_wp2_with fail
          refine bodyPost_ret (v := .tuple #[.slice A1' R.length c1', .bool true]) (by simp [results, Tryd.results16, go_sem]) rfl ?_
          rw [HR.out]
          exact ⟨A1', c1', rfl, q2, HC9.out, HBe.out⟩
    · have hl1 : ((vs.length : Int) != (r.at_.length : Int)) = true := by rw [bne_iff_ne]; omega
      have HR : Aside0 (V = ([], false)) := ⟨HV.out.trans (if_neg (fun h => hl h.2))⟩
      clear h1 h2 h3 HOK HV
      go_enter Tryd.func16, Tryd.ntmps16
      go_wp2_with (first | (go_at_call 12; refine HQ.out.mono ?_; rintro e w2 ⟨A1, c1, A2, c2, rfl, hle, hC2, hat, hb⟩; have HB2 := Aside0.mk hb; clear hle hC2 hat hb))
      refine bodyPost_ret (v := .tuple #[.slice none 0 0, .bool false]) (by simp [results, Tryd.results16, go_sem]) rfl ?_
      rw [HR.out]
      exact ⟨none, 0, rfl, Nat.le_refl _, C_nil _ _, below_step HB2.out (below_alloc (Below.refl _ _) _)⟩
  · have heb : (r.e != 0) = true := by simpa using he
    have HR : Aside0 (V = ([], false)) := ⟨HV.out.trans (if_neg (fun h => he h.1))⟩
    clear HOK HV he
    go_enter Tryd.func16, Tryd.ntmps16
    go_wp2_with (first | (go_at_call 12; refine HQ.out.mono ?_; rintro e w2 ⟨A1, c1, A2, c2, rfl, hle, hC2, hat, hb⟩; have HB2 := Aside0.mk hb; clear hle hC2 hat hb))
    refine bodyPost_ret (v := .tuple #[.slice none 0 0, .bool false]) (by simp [results, Tryd.results16, go_sem]) rfl ?_
    rw [HR.out]
    exact ⟨none, 0, rfl, Nat.le_refl _, C_nil _ _, below_step HB2.out (below_alloc (Below.refl _ _) _)⟩
end Go.Proofs.YtbfgoopomfenjaaDoor
namespace Go.Proofs.YtbfgoopomfenjaaDoor
open Go.RowKit Go.Proofs.YtbfgoopomfenjaaDoorW.PrintWords Go.Proofs.YtbfgoopomfenjaaDoorW.PrintLast Go.Proofs.YtbfgoopomfenjaaDoor.PTseitinValues
set_option linter.unusedVariables false
set_option linter.unusedSimpArgs false
attribute [local go_sem] World.cell?_alloc_lt
attribute [local go_sem] run_store_fn

def CloneOut (xs : List Bool) (W : World) (e : Ending) (W' : World) : Prop :=
  ∃ A1 c1, e = .returned (.slice A1 xs.length c1) ∧ W'.ownsRow W.heap.size 4 1 (.slice A1 xs.length c1) xs.length (bls xs) ∧ Below W.heap.size W W'
set_option maxHeartbeats 1000000 in
/-- slices.Clone of bools. -/
theorem ts_Clone (xs : List Bool) (A : Option Addr) (c : Nat) (W : World) (h : kB.C W A xs.length xs) (hl : xs.length ≤ 1000000) : Calls Tryd.prog 37 #[.slice A xs.length c] W (CloneOut xs W) := by
  have qT : ∀ (w : World) (a : Option Addr) (n c n' c' : Nat), (binOp .eql 34 (.slice a n c) (.slice none n' c')).run Tryd.prog w = .ok (.bool a.isNone) w := fun w a n c n' c' => Lib.run_eql_slice_nil w _ _ a n c n' c' Tryd.underlying34
  rcases A with _ | ad
  · have h0 : xs = [] := by
      cases xs with
      | nil => rfl
      | cons x xs => obtain ⟨_, ad, _, he, _, _⟩ := atB h 0 (by simp); cases he
    subst h0
    clear h hl
    go_enter Tryd.func37, Tryd.ntmps37
    go_wp2_with fail
    go_ret
    exact ⟨none, 0, rfl, own_nil _ _ _ _, Below.refl _ _⟩
  · have HR := Aside0.mk (bools_reads h)
    have hB : Below W.heap.size W (W.alloc (.cells #[] 4)) := below_alloc (Below.refl _ _) _
    have HB := Aside0.mk hB
    have HO := Aside0.mk (show (W.alloc (.cells #[] 4)).ownsRow W.heap.size 4 1 (.slice (some ⟨W.heap.size, 0, none⟩) 0 0) ([] : List Bool).length (bls []) from by
      have h9 := World.ownsRow_lit (base := W.heap.size) (e := 4) (size := 1) W #[] 0 (Nat.le_refl _) (by decide) (by simp)
      simpa [encs] using h9)
    clear h hB
    go_enter Tryd.func37, Tryd.ntmps37
    go_wp2_with (first | (at_builtin; refine print_append_row_of (w0 := W) Value.bool false W.heap.size rfl (.tmp 5) (.tmp 6) 34 4 (.bool false) 1 rfl Tryd.underlying34 info4 rfl (by omega) (fun _ => rfl) (.slice (some ⟨W.heap.size, 0, none⟩) 0 0) [] xs (some ad) xs.length c rfl rfl HO.out (HR.out.below HB.out) HB.out HB.out.size (by simp; omega) ?_; intro v4 w4 ho4 hb4 hg4 hat4; have HO4 := Aside0.mk ho4; have HB4 := Aside0.mk hb4; clear ho4 hb4 hg4 hat4))
    go_ret
    rw [List.nil_append] at HO4
    obtain ⟨A4, c4, rfl⟩ := own_slice HO4.out
    exact ⟨A4, c4, rfl, HO4.out, HB4.out⟩

/-- What Values' closure for the parts keeps. -/
abbrev vInv (w0 Wn : World) (bO : Nat) (v0 : Value) : List Bool → Value → World → Prop := fun out v W =>
  Upd (E0v (fun i => i = bO) v0) Wn W ∧ OwnStep Wn.heap.size v0 v ∧ ∃ A c, v = .slice A out.length c ∧ Boxed W bO 34 v ∧ W.ownsRow w0.heap.size 4 1 v out.length (bls out)
theorem vInv_ok {w0 Wn : World} {bO : Nat} {v0 : Value} (hB : Below w0.heap.size w0 Wn) (hb : w0.heap.size ≤ bO) (hbl : bO < Wn.heap.size) (hv : ∀ i, Ev v0 i → w0.heap.size ≤ i) : EvInv w0 Wn.heap.size (fun i => i = bO) (vInv w0 Wn bO v0) where
  upd := fun out v W W' h hu => by
    obtain ⟨h1, h2, A, c, rfl, h3, h4⟩ := h
    refine ⟨⟨hu.os.trans h1.os, hu.tape.trans h1.tape, hu.output.trans h1.output, Nat.le_trans h1.size hu.size, fun i hi he => (hu.block i (Nat.lt_of_lt_of_le hi h1.size) (fun e => by have := e.1; omega)).trans (h1.block i hi he)⟩, h2, A, c, rfl, ?_, ?_⟩
    · exact hu.boxed h3 (fun e => by have := e.1; omega)
    · exact own_move h4 (fun k hk => hu.block k (own_lt h4 k hk) (fun e => e.2 hk))
  below := fun out v W h => hB.trans (h.1.below hB.size (fun i e => e.elim (fun e => by omega) (fun e => hv i e)))
  size := fun out v W h => h.1.size
  lt := fun out v W i h e => by
    obtain ⟨h1, h2, A, c, rfl, h3, h4⟩ := h
    rcases e with e | e
    · subst e; exact ⟨hb, h3.lt⟩
    · exact ⟨own_base h4 i e, own_lt h4 i e⟩
set_option maxHeartbeats 2000000 in
theorem vPart (w0 Wn : World) (bO m : Nat) (v0 : Value) (hm6 : m ≤ 1000000) (hB : Below w0.heap.size w0 Wn) : PART_v (vInv w0 Wn bO v0) w0 (fun i => i = bO) bO m := by
  intro b out v W h hm
  obtain ⟨h1, h2, A, c, rfl, h3, h4⟩ := h
  have H1 := Aside0.mk h1
  have H2 := Aside0.mk h2
  have H3 := Aside0.mk h3
  have H4 := Aside0.mk h4
  have H0 : Aside0 (w0.heap.size ≤ W.heap.size) := ⟨Nat.le_trans hB.size h1.size⟩
  have b0 := h3.cell
  have bf := h3.frozen
  have bl := h3.lt
  have bln : ∀ q, bO < W.heap.size + q := fun q => by omega
  clear h1 h2 h3 h4 hB
  go_enter Tryd.func40, Tryd.ntmps40
  go_wp2_with (first | (at_builtin; refine print_append_of (w0 := W) Value.bool w0.heap.size rfl (.tmp 3) (.tmp 5) 34 4 (.bool false) 1 rfl Tryd.underlying34 info4 rfl (by omega) (.slice A out.length c) out b rfl rfl rfl H4.out (Below.refl _ _) H0.out (by omega) ?_; intro v3 w3 ho3 hb3 hg3 hat3; have h33 := H3.out.kept hg3 (own_ne H4.out H3.out (by decide)); have HO3 := Aside0.mk ho3; have HG3 := Aside0.mk hg3; have HT3 := Aside0.mk hat3; have HB33 := Aside0.mk h33; have d0 := h33.cell; have df := h33.frozen; have dl := h33.lt; obtain ⟨A5, c5, hv5⟩ := own_slice ho3; subst hv5; clear ho3 hb3 hg3 hat3 h33))
  go_end0
  have hlen : (out ++ [b]).length = out.length + 1 := by simp
  have hu : Upd (E0v (fun i => i = bO) (.slice A out.length c)) W (w3.setCell ⟨bO, 0, none⟩ (.slice A5 (out.length + 1) c5)) := ((Upd.refl _ W).grown HG3.out (fun r e _ => .inr e)).setCell (p := ⟨bO, 0, none⟩) (.inl rfl) _
  have ho := HO3.out
  rw [hlen] at ho
  have ht := HT3.out
  rw [hlen] at ht
  refine ⟨rfl, .slice A5 (out.length + 1) c5, ⟨H1.out.ownE H2.out hu, H2.out.trans ?_ H1.out.size, A5, c5, by rw [hlen], HB33.out.set _, ?_⟩, hu, ?_⟩
  · exact ht
  · rw [hlen]
    exact own_setCell ho (p := ⟨bO, 0, none⟩) (own_ne ho HB33.out (by decide)) _
  · exact ht
end Go.Proofs.YtbfgoopomfenjaaDoor
namespace Go.Proofs.YtbfgoopomfenjaaDoor
open Go.RowKit Go.Proofs.YtbfgoopomfenjaaDoorW.PrintWords Go.Proofs.YtbfgoopomfenjaaDoorW.PrintLast Go.Proofs.YtbfgoopomfenjaaDoor.PTseitinValues
set_option linter.unusedVariables false
set_option linter.unusedSimpArgs false
attribute [local go_sem] World.cell?_alloc_lt
attribute [local go_sem] run_store_fn

set_option maxRecDepth 100000 in
set_option maxHeartbeats 4000000 in
/-- tseitin.Values. -/
theorem ts_Values (w0 : World) (cs : List S41) (A : Option Addr) (c : Nat) (vs : List Bool) (Av : Option Addr) (cv : Nat) (W : World) (hB : Below w0.heap.size w0 W) (hC : k41.C w0 A cs.length cs) (hVC : kB.C w0 Av vs.length vs) (hvl : vs.length ≤ 10000) (hN : Needs W) (hs : ∀ x ∈ cs, csize x ≤ 4096) (hsum : (cs.map csize).sum ≤ 900000) :
    Calls Tryd.prog 15 #[.slice A cs.length c, .slice Av vs.length cv] W (ValsOut (valsB cs vs) W) := by
  have hla := hC.2.1
  have hmf : ∀ fn first cap w, (Instr.makeFunc fn first cap).run Tryd.prog w = .ok (.func fn first cap) w := fun _ _ _ _ => rfl
  have hBW : Below W.heap.size W (W.alloc (.cells #[.slice Av vs.length cv] 34)) := below_alloc (Below.refl _ _) _
  have hbV : Boxed (W.alloc (.cells #[.slice Av vs.length cv] 34)) W.heap.size 34 (.slice Av vs.length cv) := Boxed.new W 34 _
  have HQ := Aside0.mk (prog_Of w0 cs A c _ (hB.trans (hBW.mono hB.size)) hC (hN.below hBW) hs hsum)
  have HC := Aside0.mk hC
  have HVC := Aside0.mk hVC
  have HB := Aside0.mk (hB.trans (hBW.mono hB.size))
  have HBW := Aside0.mk hBW
  have HbV := Aside0.mk hbV
  have HSUM := Aside0.mk hsum
  have HW0 : Aside0 (w0.heap.size ≤ W.heap.size) := ⟨hB.size⟩
  clear hC hVC hB hs hsum hBW hbV hN
  have HOK := Aside0.mk (@ofR_ok cs)
  have HV : Aside0 (valsB cs vs = if (ofR cs).e = 0 ∧ (ofR cs).at_.length = vs.length then (vs ++ pvL (lv (ofR cs).at_ vs) cs, true) else ([], false)) := ⟨rfl⟩
  generalize hr : ofR cs = r at *
  generalize hvr : valsB cs vs = V at *
  clear hvr
  by_cases he : r.e = 0
  · have heb : (r.e != 0) = false := by simpa using he
    obtain ⟨h1, h2, h3⟩ := HOK.out he
    by_cases hl : r.at_.length = vs.length
    · have hl1 : ((r.at_.length : Int) != (vs.length : Int)) = false := by rw [hl]; simp
      have HR : Aside0 (V = (vs ++ pvL (lv r.at_ vs) cs, true)) := ⟨HV.out.trans (if_pos ⟨he, hl⟩)⟩
      have HCP : Aside0 (∀ x ∈ cs, cparts x = 0) := ⟨fun x hx => by
        have h := h2 x hx
        unfold cright at h
        split at h
        · exact absurd h (by decide)
        · split at h
          · exact absurd h (by decide)
          · exact h⟩
      have HLV : Aside0 (∀ x ∈ cs, ∀ a ∈ leaves x, 0 ≤ posn r.at_ a ∧ posn r.at_ a < vs.length) := ⟨fun x hx a ha => by
        have h5 := ((atomsL_has HCP.out []).2 x hx a ha).posn
        rw [← h1, hl] at h5
        exact h5⟩
      have HAL := Aside0.mk h3
      have HL := Aside0.mk hl
      clear h1 h2 h3 HOK HV he hl
      go_enter Tryd.func15, Tryd.ntmps15
      go_upto_region 1 with fail
      generalize hW : W.alloc (.cells #[.slice Av vs.length cv] 34) = W1 at *
      clear hW
      go_upto_region 2 with (first | (go_at_call 11; refine HQ.out.mono ?_; rintro e w2 ⟨A1, c1, A2, c2, rfl, hle, hC2, hat, hb⟩; have HAT2 := Aside0.mk hat; have HB2 := Aside0.mk hb; clear hle hC2 hat hb))
      have hB3 : Below w2.heap.size w2 ((w2.alloc (.cells #[.int .i64 r.n, .slice A1 r.l.length c1] 27)).alloc (.cells #[.slice A2 r.at_.length c2] 22)) := ((Below.refl _ _).alloc (Nat.le_refl _) _).alloc (by simp) _
      have HAT3 := Aside0.mk (HAT2.out.upd (Upd.of_below (E := fun _ => False) hB3) (fun _ _ h => h))
      have HB3 := Aside0.mk (below_step HB2.out hB3)
      have HbA := Aside0.mk (show Boxed ((w2.alloc (.cells #[.int .i64 r.n, .slice A1 r.l.length c1] 27)).alloc (.cells #[.slice A2 r.at_.length c2] 22)) (w2.heap.size + 1) 22 (.slice A2 r.at_.length c2) from blk_newAt _ _ _ (by simp))
      clear hB3
      generalize hW : (w2.alloc (.cells #[.int .i64 r.n, .slice A1 r.l.length c1] 27)).alloc (.cells #[.slice A2 r.at_.length c2] 22) = W3 at *
      clear hW
      have HbV3 := Aside0.mk (HbV.out.kept (grown_of_below HB3.out none) (by simp))
      have HB03 := Aside0.mk (HB.out.trans (HB3.out.mono HB.out.size))
      have HW2 : Aside0 (w0.heap.size ≤ w2.heap.size) := ⟨Nat.le_trans HB.out.size HB2.out.size⟩
      have v0 := HbV3.out.cell
      have vl := HbV3.out.lt
      have a0 := HbA.out.cell
      have al := HbA.out.lt
      generalize hbA : w2.heap.size = bA at *
      clear hbA
      go_upto_region 5 with (first | (go_at_call 37; refine (ts_Clone vs Av cv _ (Kd.C_below HVC.out HB03.out) (by omega)).mono ?_; rintro e w4 ⟨A4, c4, rfl, ho4, hb4⟩; have HO4 := Aside0.mk ho4; have HB4 := Aside0.mk hb4; clear ho4 hb4))
      have hb5 : Below w4.heap.size w4 (w4.alloc (.cells #[.slice A4 vs.length c4] 34)) := below_alloc (Below.refl _ _) _
      have HbO := Aside0.mk (Boxed.new w4 34 (.slice A4 vs.length c4))
      have HO5 := Aside0.mk (pw_own_below HO4.out hb5)
      have HB45 := Aside0.mk (below_step HB4.out hb5)
      have HbON : Aside0 (W3.heap.size ≤ w4.heap.size) := ⟨HB4.out.size⟩
      clear hb5 v0 vl a0 al
      generalize hW : w4.alloc (.cells #[.slice A4 vs.length c4] 34) = Wn at *
      clear hW
      generalize hbO : w4.heap.size = bO at *
      clear hbO
      have HB0n := Aside0.mk (HB03.out.trans (HB45.out.mono HB03.out.size))
      have HATn := Aside0.mk (HAT3.out.upd (Upd.of_below (E := fun _ => False) HB45.out) (fun _ _ h => h))
      have HbVn := Aside0.mk (HbV3.out.kept (grown_of_below HB45.out none) (by simp))
      have HbAn := Aside0.mk (HbA.out.kept (grown_of_below HB45.out none) (by simp))
      have hbV3 := HbV3.out.lt
      have hbA3 := HbA.out.lt
      have HO0 := Aside0.mk (own_weaken HO5.out HB03.out.size)
      have HEv : Aside0 (∀ i, Ev (.slice A4 vs.length c4) i → W3.heap.size ≤ i) := ⟨fun i e => own_base HO5.out i e⟩
      have HIV := Aside0.mk (vInv_ok (w0 := w0) (Wn := Wn) (bO := bO) (v0 := .slice A4 vs.length c4) HB0n.out (Nat.le_trans HB03.out.size HbON.out) HbO.out.lt (fun i e => Nat.le_trans HB03.out.size (HEv.out i e)))
      have HLB : Aside0 (∀ out v V, vInv w0 Wn bO (.slice A4 vs.length c4) out v V → LeafBoxes w0 r.at_ vs W.heap.size (bA + 1) V) := ⟨fun out v V h => by
        have hne1 : ¬ E0v (fun i => i = bO) (.slice A4 vs.length c4) W.heap.size := fun e => e.elim (fun e => by have := HbON.out; omega) (fun e => by have := HEv.out _ e; omega)
        have hne2 : ¬ E0v (fun i => i = bO) (.slice A4 vs.length c4) (bA + 1) := fun e => e.elim (fun e => by have := HbON.out; omega) (fun e => by have := HEv.out _ e; omega)
        have hAT := HATn.out.upd h.1 (fun i hi e => e.elim (fun e => by subst e; exact OwnRow.ne_block HATn.out HbO.out (by decide) hi.symm) (fun e => by obtain ⟨_, o1, _⟩ := HATn.out; exact own_types o1 HO0.out (by decide) i hi e))
        have hB9 := HIV.out.below _ _ _ h
        exact ⟨hB9, ⟨A2, c2, h.1.boxed HbAn.out hne2, hAT.RA.2.2⟩, ⟨Av, cv, h.1.boxed HbVn.out hne1, Kd.C_below HVC.out hB9⟩, by have := HAL.out; omega⟩⟩
      have HPA := Aside0.mk (vPart w0 Wn bO 1000000 (.slice A4 vs.length c4) (by omega) HB0n.out)
      go_wp2_with fail
      go_loopw [31] (fun i wr => ∃ (k : Nat) (v : Value), k ≤ cs.length ∧ i = .int .i64 k ∧ Aside0 (vInv w0 Wn bO (.slice A4 vs.length c4) (vs ++ pvL (lv r.at_ vs) (cs.take k)) v wr)) (fun i _ => cs.length - (intOf i).toNat)
      case atStart =>
        exact ⟨0, .slice A4 vs.length c4, Nat.zero_le _, rfl, ⟨Upd.refl _ _, .inl rfl, A4, c4, by rw [List.take_zero, pvL, List.append_nil], HbO.out, by rw [List.take_zero, pvL, List.append_nil]; exact HO0.out⟩⟩
      case round =>
        obtain ⟨k, v, hk, rfl, HI⟩ := hrel
        have HBk := Aside0.mk (HIV.out.below _ _ _ HI.out)
        by_cases hlt : k < cs.length
        · have hltb : decide (k < cs.length) = true := decide_eq_true hlt
          obtain ⟨x, ad, A3, c3, B3, d3, hx, rfl, Z0⟩ := at41 HC.out k hlt
          have Z := Z0.below HBk.out
          obtain ⟨z0, z1, z2, z3, z4, zl0, zln⟩ := Z.cells
          have HE2 := Aside0.mk (pvL_take (lv r.at_ vs) hx)
          have hbound : (vs ++ pvL (lv r.at_ vs) (cs.take k)).length + csize x ≤ 1000000 := by
            rw [List.length_append]
            have h3 := sumTo_step csize hx
            have h4 := sumTo_le csize cs (k + 1)
            have h5 : (pvL (lv r.at_ vs) (cs.take k)).length ≤ sumTo csize cs k := pvL_len _ _ _
            have := HSUM.out
            omega
          have hWB : Below wr.heap.size wr (wr.alloc (.cells #[.int .i64 x.f0, .string x.f1, .string x.f2, .slice A3 x.f3.length c3, .slice B3 x.f4.length d3] 41)) := below_alloc (Below.refl _ _) _
          have HC1 := Aside0.mk (ev_all_v w0 r.at_ vs W.heap.size (bA + 1) bO 1000000 Wn.heap.size (by omega) (fun i => i = bO) (vInv w0 Wn bO (.slice A4 vs.length c4)) HIV.out HLB.out HPA.out _ x (Nat.le_refl _) A3 c3 B3 d3 (vs ++ pvL (lv r.at_ vs) (cs.take k)) v _ Z0.P (HCP.out x (List.mem_of_getElem? hx)) (HLV.out x (List.mem_of_getElem? hx)) (HIV.out.bel HI.out hWB) hbound)
          clear hx Z0 hbound hWB
          generalize hst : vs ++ pvL (lv r.at_ vs) (cs.take k) = R at *
          go_wp2_with (first
            | (go_at_call 38; refine HC1.out.mono ?_; rintro e w5 ⟨rfl, v5, hi5, _, _⟩; have HI5 := Aside0.mk hi5; clear hi5))
          refine ⟨?_, by simp [intOf]; omega⟩
          have hE3 : vs ++ pvL (lv r.at_ vs) (cs.take (k + 1)) = R ++ pv (lv r.at_ vs) x := by rw [HE2.out, ← List.append_assoc, hst]
          exact ⟨k + 1, v5, by omega, by go_num, ⟨by rw [hE3]; exact HI5.out⟩⟩
        · have hltb : decide (k < cs.length) = false := decide_eq_false hlt
          have htk : cs.take k = cs := List.take_of_length_le (by omega)
          rw [htk] at HI
          generalize hst : vs ++ pvL (lv r.at_ vs) cs = R at *
          obtain ⟨⟨i1, i2, A9, c9, rfl, i3, i4⟩⟩ := HI
          obtain ⟨_, q2, q3⟩ := bls_C i4
          have HC9 := Aside0.mk q3
          have HBe := Aside0.mk (HBW.out.trans (HB3.out.mono HBW.out.size))
          have HBe2 := Aside0.mk ((HBe.out.trans (HB45.out.mono HBe.out.size)).trans (i1.below (HBe.out.trans (HB45.out.mono HBe.out.size)).size (fun i e => e.elim (fun e => by have := HbON.out; have := HBe.out.size; omega) (fun e => Nat.le_trans HBe.out.size (HEv.out i e)))))
          have d0 := i3.cell
          have dl := i3.lt
          clear q3 i1 i2 i3 i4
          go_wp2_with fail
          refine bodyPost_ret (v := .tuple #[.slice A9 R.length c9, .bool true]) (by simp [results, Tryd.results15, go_sem]) rfl ?_
          rw [HR.out]
          exact ⟨A9, c9, rfl, q2, HC9.out, HBe2.out⟩
    · have hl1 : ((r.at_.length : Int) != (vs.length : Int)) = true := by rw [bne_iff_ne]; omega
      have HR : Aside0 (V = ([], false)) := ⟨HV.out.trans (if_neg (fun h => hl h.2))⟩
      clear h1 h2 h3 HOK HV
      go_enter Tryd.func15, Tryd.ntmps15
      go_upto_region 1 with fail
      generalize hW : W.alloc (.cells #[.slice Av vs.length cv] 34) = W1 at *
      clear hW
      go_upto_region 2 with (first | (go_at_call 11; refine HQ.out.mono ?_; rintro e w2 ⟨A1, c1, A2, c2, rfl, hle, hC2, hat, hb⟩; have HB2 := Aside0.mk hb; have v2 := (HbV.out.kept (grown_of_below hb none) (by simp)).cell; have vl2 := (HbV.out.kept (grown_of_below hb none) (by simp)).lt; have vln : ∀ q, W.heap.size < w2.heap.size + q := (fun q => by omega); clear hle hC2 hat hb))
      have hB3 : Below w2.heap.size w2 ((w2.alloc (.cells #[.int .i64 r.n, .slice A1 r.l.length c1] 27)).alloc (.cells #[.slice A2 r.at_.length c2] 22)) := ((Below.refl _ _).alloc (Nat.le_refl _) _).alloc (by simp) _
      go_wp2_with fail
      refine bodyPost_ret (v := .tuple #[.slice none 0 0, .bool false]) (by simp [results, Tryd.results15, go_sem]) rfl ?_
      rw [HR.out]
      exact ⟨none, 0, rfl, Nat.le_refl _, C_nil _ _, HBW.out.trans ((below_step HB2.out hB3).mono HBW.out.size)⟩
  · have heb : (r.e != 0) = true := by simpa using he
    have HR : Aside0 (V = ([], false)) := ⟨HV.out.trans (if_neg (fun h => he h.1))⟩
    clear HOK HV he
    go_enter Tryd.func15, Tryd.ntmps15
    go_upto_region 1 with fail
    generalize hW : W.alloc (.cells #[.slice Av vs.length cv] 34) = W1 at *
    clear hW
    go_upto_region 2 with (first | (go_at_call 11; refine HQ.out.mono ?_; rintro e w2 ⟨A1, c1, A2, c2, rfl, hle, hC2, hat, hb⟩; have HB2 := Aside0.mk hb; clear hle hC2 hat hb))
    have hB3 : Below w2.heap.size w2 ((w2.alloc (.cells #[.int .i64 r.n, .slice A1 r.l.length c1] 27)).alloc (.cells #[.slice A2 r.at_.length c2] 22)) := ((Below.refl _ _).alloc (Nat.le_refl _) _).alloc (by simp) _
    go_wp2_with fail
    refine bodyPost_ret (v := .tuple #[.slice none 0 0, .bool false]) (by simp [results, Tryd.results15, go_sem]) rfl ?_
    rw [HR.out]
    exact ⟨none, 0, rfl, Nat.le_refl _, C_nil _ _, HBW.out.trans ((below_step HB2.out hB3).mono HBW.out.size)⟩
end Go.Proofs.YtbfgoopomfenjaaDoor
namespace Go.Proofs.YtbfgoopomfenjaaDoor
open Go.RowKit Go.Proofs.YtbfgoopomfenjaaDoorW.PrintWords Go.Proofs.YtbfgoopomfenjaaDoorW.PrintLast Go.Proofs.YtbfgoopomfenjaaDoor.PTseitinValues
set_option linter.unusedVariables false
set_option linter.unusedSimpArgs false
attribute [local go_sem] World.cell?_alloc_lt
attribute [local go_sem] run_store_fn

set_option maxRecDepth 100000 in
set_option maxHeartbeats 4000000 in
theorem law_values (l : List S41) (A : Option Addr) (c : Nat) (vs : List Bool) (Av : Option Addr) (cv : Nat) (W : World) (hc : l.length ≤ c) (hC : k41.C W A l.length l) (hVC : kB.C W Av vs.length vs) (hN : Needs W) :
    Calls Tryd.prog 4 #[.slice A l.length c, .slice Av vs.length cv] W fun e w' => e = .returned (.bool true) ∧ Below W.heap.size W w' := by
  have hvl : vs.length ≤ 9223372036854775807 := hVC.2.1
  have HC := Aside0.mk hC
  have HVC := Aside0.mk hVC
  have HN := Aside0.mk hN
  have HF := Aside0.mk (law_few l A c 200 W (by omega) (by omega) hc hC)
  have e200 : Int.toNat 200 = 200 := rfl
  rw [e200] at HF
  clear hC hVC hN e200
  cases hf : fewOf l 200 with
  | false =>
    rw [hf] at HF
    go_enter Tryd.func4, Tryd.ntmps4
    go_wp2_with (first
      | (go_at_call 9; refine HF.out.mono ?_; rintro e w1 ⟨rfl, hb⟩; have HB1 := Aside0.mk hb; clear hb)
      | (go_at_call 10; refine (law_alive _ (HN.out.below HB1.out)).mono ?_; rintro e w2 ⟨rfl, hb⟩; have HB2 := Aside0.mk (below_step HB1.out hb); clear hb))
    go_ret
    exact ⟨rfl, HB2.out⟩
  | true =>
    obtain ⟨hs, hsum⟩ := few_facts hf (by omega)
    rw [hf] at HF
    have HS : Aside0 (∀ x ∈ l, csize x ≤ 4096) := ⟨fun x hx => Nat.le_trans (hs x hx) (by omega)⟩
    clear hs hf
    by_cases hv : 300 < vs.length
    · have hv1 : decide ((300 : Int) < (vs.length : Int)) = true := decide_eq_true (by omega)
      have hv2 : decide (300 < vs.length) = true := decide_eq_true hv
      go_enter Tryd.func4, Tryd.ntmps4
      go_wp2_with (first
        | (go_at_call 9; refine HF.out.mono ?_; rintro e w1 ⟨rfl, hb⟩; have HB1 := Aside0.mk hb; clear hb)
        | (go_at_call 10; refine (law_alive _ (HN.out.below HB1.out)).mono ?_; rintro e w2 ⟨rfl, hb⟩; have HB2 := Aside0.mk (below_step HB1.out hb); clear hb))
      go_ret
      exact ⟨rfl, HB2.out⟩
    · have hv1 : decide ((300 : Int) < (vs.length : Int)) = false := decide_eq_false (by omega)
      have hv2 : decide (300 < vs.length) = false := decide_eq_false hv
      have HQ1 := Aside0.mk (fun V (hb : Below W.heap.size W V) => ts_Values W l A c vs Av cv V hb HC.out HVC.out (by omega) (HN.out.below hb) HS.out (by omega))
      have HQ2 := Aside0.mk (fun V (hb : Below W.heap.size W V) => ref_Values W l A c vs Av cv V hb HC.out HVC.out (by omega) HS.out (by omega))
      generalize valsB l vs = V at *
      have e2 : (V.2 == V.2) = true := by simp
      go_enter Tryd.func4, Tryd.ntmps4
      go_wp2_with (first
        | (go_at_call 9; refine HF.out.mono ?_; rintro e w1 ⟨rfl, hb⟩; have HB1 := Aside0.mk hb; clear hb)
        | (go_at_call 15; refine (HQ1.out _ HB1.out).mono ?_; rintro e w2 ⟨A1, c1, rfl, hl1, hc1, hb⟩; have HC1 := Aside0.mk hc1; have HB2 := Aside0.mk (below_step HB1.out hb); clear hb hc1)
        | (go_at_call 16; refine (HQ2.out _ HB2.out).mono ?_; rintro e w3 ⟨A2, c2, rfl, hl2, hc2, hb⟩; have HC2 := Aside0.mk hc2; have HC13 := Aside0.mk (Kd.C_below HC1.out hb); have HB3 := Aside0.mk (below_step HB2.out hb); clear hb hc2)
        | (go_at_call 17; refine (base_bools V.1 V.1 A1 c1 A2 c2 _ HC13.out HC2.out).mono ?_; rintro e w4 ⟨rfl, hb⟩; have HB4 := Aside0.mk (below_step HB3.out hb); clear hb; rw [decide_eq_true (rfl : V.1 = V.1)])
        | (go_at_call 10; refine (law_alive _ (HN.out.below HB4.out)).mono ?_; rintro e w5 ⟨rfl, hb⟩; have HB5 := Aside0.mk (below_step HB4.out hb); clear hb))
      go_ret
      exact ⟨rfl, HB5.out⟩
end Go.Proofs.YtbfgoopomfenjaaDoor
