/- A text of the proof: the parts RV10, RW10, RX10, RZ10, SA10, SB10. -/
import Derived.Test.YtekhodpmpjehaaaDoorK7
set_option linter.unusedSimpArgs false
set_option linter.unusedVariables false
/-! text RV10 -/
namespace Go.Proofs.YtekhodpmpjehaaaDoor
open Go.Vsi
set_option maxHeartbeats 4000000
attribute [local irreducible] VW VCall VO bits

/-! ### the law TruthPuts -/
theorem built_take (l : List Nat) (n : Nat) (hb : ∀ i, i < l.length → l.getD i 0 ≤ 255) (hn : n ≤ 30) (H : Heap) : VDet Tryd.prog 11 [.sl none ((min ((l.length : Nat) : Int) (n : Nat)).toNat - 0) (((l.drop 0).take ((min ((l.length : Nat) : Int) (n : Nat)).toNat - 0)).flatMap encB)] H (.agg (bltF (l.take n)).cells) := by
  rw [show (min ((l.length : Nat) : Int) (n : Nat)).toNat - 0 = min l.length n by omega, List.drop_zero, show l.take (min l.length n) = l.take n by
    rcases Nat.le_total l.length n with h | h
    · rw [Nat.min_eq_left h, List.take_length, List.take_of_length_le h]
    · rw [Nat.min_eq_right h]]
  have := built_c (l.take n) (by rw [List.length_take]; omega) (fun i hi => by
    rw [List.length_take] at hi
    have := hb i (by omega)
    rwa [List.getD_eq_getElem?_getD, List.getElem?_take, if_pos (by omega), ← List.getD_eq_getElem?_getD]) H
  rwa [List.length_take, Nat.min_comm] at this
theorem vb_with (k t : Nat) (hk : k < 12) (b : Bool) (c : UInt8) (hc : c ∈ lets) : vb lets ((t ^^^ (t &&& 2 ^ (11 - k))) ||| (if b then 2 ^ (11 - k) else 0)) c = upd (vb lets t) (lets.getD k 0) b c := by
  obtain ⟨j, hj, rfl⟩ := mem_getD lets c hc
  have hj : j < 12 := hj
  have hix : ∀ i, i < 12 → ixN lets (lets.getD i 0) = i := by decide
  have hne : ∀ i, i < 12 → ∀ i', i' < 12 → (lets.getD i 0 = lets.getD i' 0 ↔ i = i') := by decide
  unfold upd vb
  simp only [hix j hj, hne j hj k hk, show lets.length = 12 from rfl]
  rw [Nat.testBit_or, Nat.testBit_xor, Nat.testBit_and, Nat.testBit_two_pow]
  by_cases e : j = k
  · subst e
    rw [if_pos rfl, show (12 - 1 - j) = 11 - j by omega]
    cases b <;> simp
  · rw [if_neg e]
    have : ¬ 11 - k = 12 - 1 - j := by omega
    cases b <;> simp [this, Nat.testBit_two_pow]
theorem puts_c (l m : List Nat) (hl : l.length ≤ 9223372036854775807) (hb : ∀ i, i < l.length → l.getD i 0 ≤ 255) (hm : m.length ≤ 9223372036854775807) (hc : ∀ i, i < m.length → m.getD i 0 ≤ 255) (w v : Nat) (hw : w ≤ 255) (hv : v ≤ 65535) (H : Heap) :
    VDet Tryd.prog 3 [.sl none l.length (l.flatMap encB), .sl none m.length (m.flatMap encB), .int .u8 w, .int .u16 v] H (.bool true) := by
  have b1 := built_take l 12 hb (by omega)
  have b2 := built_take m 12 hc (by omega)
  have z1 := blt12 l 12
  have z2 := blt12 m 12
  generalize bltF (l.take 12) = f at *
  generalize bltF (m.take 12) = g at *
  obtain ⟨k, hk, hk12⟩ : ∃ k, w % 12 = k ∧ k < 12 := ⟨_, rfl, Nat.mod_lt _ (by decide)⟩
  obtain ⟨t, ht, ht4⟩ : ∃ t, v % 4096 = t ∧ t < 4096 := ⟨_, rfl, Nat.mod_lt _ (by decide)⟩
  have hp := put_c (lets.getD k 0) g f z1.nice.pr
  have gp := put_good (k := lets.getD k 0) z1 z2 (by omega)
  have np := put_nice (k := lets.getD k 0) z2.nice f z1.nice
  have v1 := value_c _ gp np.inl t ht4
  have v2 := value_c g (z2.mono (by omega)).good z2.nice.inl t ht4
  have v3 := fun t (ht : t < 4096) => value_c f (z1.mono (by omega)).good z1.nice.inl t ht
  have hev : (putF (lets.getD k 0) g f).ev (vb lets t) = f.ev (vb lets ((t ^^^ (t &&& 2 ^ (11 - k))) ||| (if g.ev (vb lets t) then 2 ^ (11 - k) else 0))) := by
    rw [ev_put]
    exact ev_has f fun c hc => (vb_with k t hk12 _ c ((in_iff lets f).1 z1.nice.inl c hc)).symm
  have hsub : IntKind.i64.wrap (11 - (k : Int)) = ((11 - k : Nat) : Int) := by rw [IntWalk.i64_in _ (by omega)]; omega
  have hp2 : 2 ^ (11 - k) ≤ 2048 := by
    have := Nat.pow_le_pow_right (n := 2) (by omega) (show 11 - k ≤ 11 by omega)
    simpa using this
  obtain ⟨p, hp2', hp3⟩ : ∃ p, 2 ^ (11 - k) = p ∧ p ≤ 2048 := ⟨_, rfl, hp2⟩
  have htwo : IntKind.i64.wrap (1 * 2 ^ min ((11 - k : Nat) : Int).toNat IntKind.i64.bits) = (p : Int) := by
    obtain ⟨y, e, h⟩ := EqN.two (k := fun y => y = (p : Int)) (11 - k) (by omega) (by rw [hp2'])
    rw [e, h]
  have hand : bits .andNot .i64 (t : Int) (p : Int) = ((t ^^^ (t &&& p) : Nat) : Int) := by
    obtain ⟨y, e, h⟩ := EqN.andNot (k := fun y => y = ((t ^^^ (t &&& p) : Nat) : Int)) t p rfl rfl ⟨by omega, by omega⟩ rfl
    rw [e, h]
  have ha : t ^^^ (t &&& p) < 4096 := Nat.xor_lt_two_pow (n := 12) ht4 (Nat.lt_of_le_of_lt Nat.and_le_left ht4)
  have hor : bits .or .i64 ((t ^^^ (t &&& p) : Nat) : Int) (p : Int) = (((t ^^^ (t &&& p)) ||| p : Nat) : Int) := by
    obtain ⟨y, e, h⟩ := EqN.or (k := fun y => y = (((t ^^^ (t &&& p)) ||| p : Nat) : Int)) (t ^^^ (t &&& p)) p rfl rfl ⟨by omega, by omega⟩ rfl
    rw [e, h]
  have ho : (t ^^^ (t &&& p)) ||| p < 4096 := Nat.or_lt_two_pow (n := 12) ha (by omega)
  rw [hp2'] at hev
  have v4 := v3 _ ha
  have v5 := v3 _ ho
  clear v3 hp2'
  generalize hpb0 : (putF (lets.getD k 0) g f).ev (vb lets t) = pb at *
  have hfb := fun n => f.sc_below n
  have hgb := fun n => g.sc_below n
  have hpb := fun n => (putF (lets.getD k 0) g f).sc_below n
  have hfc : f.cells = [.int .u8 f.op, .str f.nmB, .sl none 0 [], .sl none f.sn f.sc] := rfl
  have hgc : g.cells = [.int .u8 g.op, .str g.nmB, .sl none 0 [], .sl none g.sn g.sc] := rfl
  have hpc : (putF (lets.getD k 0) g f).cells = [.int .u8 (putF (lets.getD k 0) g f).op, .str (putF (lets.getD k 0) g f).nmB, .sl none 0 [], .sl none (putF (lets.getD k 0) g f).sn (putF (lets.getD k 0) g f).sc] := rfl
  have hend : pb = if g.ev (vb lets t) then f.ev (vb lets ((t ^^^ (t &&& p)) ||| p)) else f.ev (vb lets (t ^^^ (t &&& p))) := by
    rw [hev]
    cases g.ev (vb lets t) <;> simp
  generalize (t ^^^ (t &&& p)) ||| p = o at *
  generalize t ^^^ (t &&& p) = a at *
  generalize g.ev (vb lets t) = gb at *
  generalize f.ev (vb lets o) = y1 at *
  generalize f.ev (vb lets a) = y2 at *
  rw [hfc] at b1 hp v4 v5
  rw [hgc] at b2 hp v2
  rw [hpc] at v1 hp
  generalize (putF (lets.getD k 0) g f).op = po at *
  generalize (putF (lets.getD k 0) g f).nmB = pn at *
  generalize (putF (lets.getD k 0) g f).sn = psn at *
  generalize (putF (lets.getD k 0) g f).sc = psc at *
  generalize f.op = fo at *
  generalize f.nmB = fn at *
  generalize f.sn = fsn at *
  generalize f.sc = fsc at *
  generalize g.op = go at *
  generalize g.nmB = gn at *
  generalize g.sn = gsn at *
  generalize g.sc = gsc at *
  clear hev
  cases gb with
  | true =>
    refine fn_det Tryd.E0 Tryd.mx Tryd.func3 (by kernel_rfl) rfl (Nat.le_of_ble_eq_true rfl) rfl fun hcl hbl => ?_
    (repeat' ((conv => whnf); (first | (refine IfN.id ?_; first | refine IfN.not ?_ | refine IfN.tt rfl ?_ | fail) | (refine EqN.id ?_; first | refine EqN.remC _ rfl rfl hk ?_ | refine EqN.remC _ rfl rfl ht ?_ | refine EqN.mk _ hsub ?_ | refine EqN.mk _ htwo ?_ | refine EqN.mk _ hand ?_ | refine EqN.mk _ hor ?_ | refine EqN.i64 (by omega) ?_ | fail) | (refine SideN.mk ?_ ?_; · first | kernel_rfl | omega | exact List.cons_ne_nil _ _ | (simp; done) | (simp; omega) | exact trivial | assumption | fail) | refine NatN.at_ (by omega) ?_ | (refine CallN.id ?_; first | refine CallN.det _ (awake_c _) ?_ | refine CallN.det _ (v2 _) ?_ | refine CallN.det _ (v5 _) ?_ | fail) | (refine CallD.id ?_; first | refine CallD.det _ (fun _ hq X => letters_c _) ?_ | refine CallD.det _ (fun _ hq X => b1 _) ?_ | refine CallD.det _ (fun _ hq X => b2 _) ?_ | refine CallD.det _ (fun _ hq X => hp _) ?_ | refine CallD.det _ (fun _ hq X => v1 _) ?_ | fail) | refine SubN.flat (lo := 0) (n := (min ((l.length : Nat) : Int) 12).toNat - 0) (fun _ => rfl) (by omega) ?_ | refine SubN.flat (lo := 0) (n := (min ((m.length : Nat) : Int) 12).toNat - 0) (fun _ => rfl) (by omega) ?_ | refine SegN.nth (f := encS) (l := lets) 0 k rfl hk12 (fun _ => rfl) ?_ | refine DrawN.mk' [] ?_ | fail))); all_goals (conv => whnf)
    refine EndN.det trivial (Wk.of_eq ?_)
    simp [hend]
  | false =>
    refine fn_det Tryd.E0 Tryd.mx Tryd.func3 (by kernel_rfl) rfl (Nat.le_of_ble_eq_true rfl) rfl fun hcl hbl => ?_
    (repeat' ((conv => whnf); (first | (refine IfN.id ?_; first | refine IfN.not ?_ | refine IfN.tt rfl ?_ | refine IfN.ff rfl ?_ | fail) | (refine EqN.id ?_; first | refine EqN.remC _ rfl rfl hk ?_ | refine EqN.remC _ rfl rfl ht ?_ | refine EqN.mk _ hsub ?_ | refine EqN.mk _ htwo ?_ | refine EqN.mk _ hand ?_ | refine EqN.i64 (by omega) ?_ | fail) | (refine SideN.mk ?_ ?_; · first | kernel_rfl | omega | exact List.cons_ne_nil _ _ | (simp; done) | (simp; omega) | exact trivial | assumption | fail) | refine NatN.at_ (by omega) ?_ | (refine CallN.id ?_; first | refine CallN.det _ (awake_c _) ?_ | refine CallN.det _ (v2 _) ?_ | refine CallN.det _ (v4 _) ?_ | fail) | (refine CallD.id ?_; first | refine CallD.det _ (fun _ hq X => letters_c _) ?_ | refine CallD.det _ (fun _ hq X => b1 _) ?_ | refine CallD.det _ (fun _ hq X => b2 _) ?_ | refine CallD.det _ (fun _ hq X => hp _) ?_ | refine CallD.det _ (fun _ hq X => v1 _) ?_ | fail) | refine SubN.flat (lo := 0) (n := (min ((l.length : Nat) : Int) 12).toNat - 0) (fun _ => rfl) (by omega) ?_ | refine SubN.flat (lo := 0) (n := (min ((m.length : Nat) : Int) 12).toNat - 0) (fun _ => rfl) (by omega) ?_ | refine SegN.nth (f := encS) (l := lets) 0 k rfl hk12 (fun _ => rfl) ?_ | refine DrawN.mk' [] ?_ | fail))); all_goals (conv => whnf)
    refine EndN.det trivial (Wk.of_eq ?_)
    simp [hend]
end Go.Proofs.YtekhodpmpjehaaaDoor
/-! text RW10 -/
namespace Go.Proofs.YtekhodpmpjehaaaDoor
open Go.Vsi
set_option maxHeartbeats 4000000
attribute [local irreducible] VW VCall VO bits

/-! ### the law TruthDeduces -/
structure Fm.Mid (f : Fm) : Prop where
  nice : f.Nice
  nodes : f.nodes ≤ 130
  depth : f.depth ≤ 40
theorem Fm.Mid.good {f : Fm} (h : f.Mid) : f.Good := h.nice.good (by have := h.nodes; omega) h.depth
theorem Fm.Sz.mid {f : Fm} (h : f.Sz 30) : f.Mid := ⟨h.nice, by have := h.nodes; omega, by have := h.depth; omega⟩
theorem Fm.Sz.mid1 {f : Fm} (h : f.Sz 30) : (Fm.f1 3 f).Mid := ⟨nice_1 h.nice, by have := h.nodes; simp only [Fm.nodes]; omega, by have := h.depth; simp only [Fm.depth]; omega⟩
theorem Fm.Sz.mid2 {f g : Fm} (h : f.Sz 30) (h2 : g.Sz 30) (k : Nat) (hk : k = 4 ∨ k = 5 ∨ k = 6 ∨ k = 7) : (Fm.f2 k f g).Mid := ⟨nice_2 h.nice h2.nice k hk, by have := h.nodes; have := h2.nodes; simp only [Fm.nodes]; omega, by have := h.depth; have := h2.depth; simp only [Fm.depth]; omega⟩
theorem nodesL_mid : ∀ l : List Fm, (∀ f ∈ l, f.Mid) → nodesL l ≤ 130 * l.length
  | [], _ => by simp [nodesL]
  | f :: l, h => by
    have := nodesL_mid l fun g hg => h g (List.mem_cons_of_mem _ hg)
    have := (h f (List.mem_cons_self ..)).nodes
    simp only [nodesL, List.length_cons]
    omega
theorem fol_c (L R : List Fm) (h : ∀ f ∈ L ++ R, f.Mid) (hlen : L.length + R.length ≤ 6) (H : Heap) : VDet Tryd.prog 15 [.agg [.sl none L.length (L.flatMap Fm.cells), .sl none R.length (R.flatMap Fm.cells)]] H (.tup [.bool (falV L R).isNone, .int .i64 0]) :=
  follows_c L R (fun f hf => (h f hf).good) (by have := nodesL_mid _ h; rw [List.length_append] at this; omega) (by omega) (names_12 _ fun f hf => (h f hf).nice.inl) H
theorem wk_row {n : Nat} {l l2 : List AV} (e : l = l2) : Wk (.sx n l) (.sl none n l2) := e ▸ wk_sx _ _
theorem isNone_iff (L R : List Fm) : (falV L R).isNone = true ↔ ∀ r, falR L R r = false := by
  rw [Option.isNone_iff_eq_none]
  exact fal_none L R
theorem b_eq {a b : Bool} (h : a = true ↔ b = true) : a = b := Bool.eq_iff_iff.2 h
theorem ded1 (a b c : Fm) : (falV [c, a] [b]).isNone = (falV [c] [.f2 6 a b]).isNone := by
  apply b_eq
  rw [isNone_iff, isNone_iff]
  refine forall_congr' fun r => ?_
  simp only [falR, List.all_cons, List.all_nil, Fm.ev]
  cases a.ev r <;> cases b.ev r <;> cases c.ev r <;> simp
theorem ded2 (a b c d : Fm) (h : (falV [c, a] [b]).isNone = true) : (falV [d, c, a] [b]).isNone = true := by
  rw [isNone_iff] at h ⊢
  intro r
  have := h r
  simp only [falR, List.all_cons, List.all_nil] at this ⊢
  revert this
  cases a.ev r <;> cases b.ev r <;> cases c.ev r <;> cases d.ev r <;> simp
theorem ded3 (a b c : Fm) : (falV [.f1 3 b, c, a] []).isNone = (falV [c, a] [b]).isNone := by
  apply b_eq
  rw [isNone_iff, isNone_iff]
  refine forall_congr' fun r => ?_
  simp only [falR, List.all_cons, List.all_nil, Fm.ev]
  cases a.ev r <;> cases b.ev r <;> cases c.ev r <;> simp
theorem ded4 (a b d : Fm) : (falV [a] [.f2 4 b d]).isNone = ((falV [a] [b]).isNone && (falV [a] [d]).isNone) := by
  apply b_eq
  rw [Bool.and_eq_true, isNone_iff, isNone_iff, isNone_iff, ← forall_and]
  refine forall_congr' fun r => ?_
  simp only [falR, List.all_cons, List.all_nil, Fm.ev]
  cases a.ev r <;> cases b.ev r <;> cases d.ev r <;> simp
theorem deduces_c (l m n o : List Nat) (hl : l.length ≤ 9223372036854775807) (hb : ∀ i, i < l.length → l.getD i 0 ≤ 255) (hm : m.length ≤ 9223372036854775807) (hc : ∀ i, i < m.length → m.getD i 0 ≤ 255) (hn : n.length ≤ 9223372036854775807) (hd : ∀ i, i < n.length → n.getD i 0 ≤ 255) (ho : o.length ≤ 9223372036854775807) (he : ∀ i, i < o.length → o.getD i 0 ≤ 255) (H : Heap) :
    VDet Tryd.prog 4 [.sl none l.length (l.flatMap encB), .sl none m.length (m.flatMap encB), .sl none n.length (n.flatMap encB), .sl none o.length (o.flatMap encB)] H (.bool true) := by
  have b1 := built_c l hl hb
  have b2 := built_c m hm hc
  have b3 := built_c n hn hd
  have b4 := built_c o ho he
  have z1 := blt30 l
  have z2 := blt30 m
  have z3 := blt30 n
  have z4 := blt30 o
  generalize bltF l = c at *
  generalize bltF m = a at *
  generalize bltF n = b at *
  generalize bltF o = d at *
  generalize l.flatMap encB = lb at *
  generalize m.flatMap encB = mb at *
  generalize n.flatMap encB = nb at *
  generalize o.flatMap encB = ob at *
  have f1 : ∀ H, VDet Tryd.prog 15 [.agg [.sx 2 (c.cells ++ a.cells), .sx 1 b.cells]] H (.tup [.bool (falV [c, a] [b]).isNone, .int .i64 0]) := fun H =>
    VDet.wk (fol_c [c, a] [b] (by simp [z1.mid, z2.mid, z3.mid]) (by simp) H) ⟨wk_agg ⟨wk_row (by simp), wk_row (by simp), trivial⟩, trivial⟩
  have f2 : ∀ H, VDet Tryd.prog 15 [.agg [.sx 1 c.cells, .sx 1 (Fm.f2 6 a b).cells]] H (.tup [.bool (falV [c] [.f2 6 a b]).isNone, .int .i64 0]) := fun H =>
    VDet.wk (fol_c [c] [.f2 6 a b] (by simp [z1.mid, z2.mid2 z3 6 (by omega)]) (by simp) H) ⟨wk_agg ⟨wk_row (by simp), wk_row (by simp), trivial⟩, trivial⟩
  have f3 : ∀ H, VDet Tryd.prog 15 [.agg [.sx 3 (d.cells ++ c.cells ++ a.cells), .sx 1 b.cells]] H (.tup [.bool (falV [d, c, a] [b]).isNone, .int .i64 0]) := fun H =>
    VDet.wk (fol_c [d, c, a] [b] (by simp [z1.mid, z2.mid, z3.mid, z4.mid]) (by simp) H) ⟨wk_agg ⟨wk_row (by simp), wk_row (by simp), trivial⟩, trivial⟩
  have f4 : ∀ H, VDet Tryd.prog 15 [.agg [.sx 3 ((Fm.f1 3 b).cells ++ c.cells ++ a.cells), .nils]] H (.tup [.bool (falV [.f1 3 b, c, a] []).isNone, .int .i64 0]) := fun H =>
    VDet.wk (fol_c [.f1 3 b, c, a] [] (by simp [z1.mid, z2.mid, z3.mid1]) (by simp) H) ⟨wk_agg ⟨wk_row (by simp), wk_nils, trivial⟩, trivial⟩
  have f5 : ∀ H, VDet Tryd.prog 15 [.agg [.sx 1 a.cells, .sx 1 (Fm.f2 4 b d).cells]] H (.tup [.bool (falV [a] [.f2 4 b d]).isNone, .int .i64 0]) := fun H =>
    VDet.wk (fol_c [a] [.f2 4 b d] (by simp [z2.mid, z3.mid2 z4 4 (by omega)]) (by simp) H) ⟨wk_agg ⟨wk_row (by simp), wk_row (by simp), trivial⟩, trivial⟩
  have f6 : ∀ H, VDet Tryd.prog 15 [.agg [.sx 1 a.cells, .sx 1 b.cells]] H (.tup [.bool (falV [a] [b]).isNone, .int .i64 0]) := fun H =>
    VDet.wk (fol_c [a] [b] (by simp [z2.mid, z3.mid]) (by simp) H) ⟨wk_agg ⟨wk_row (by simp), wk_row (by simp), trivial⟩, trivial⟩
  have f7 : ∀ H, VDet Tryd.prog 15 [.agg [.sx 1 a.cells, .sx 1 d.cells]] H (.tup [.bool (falV [a] [d]).isNone, .int .i64 0]) := fun H =>
    VDet.wk (fol_c [a] [d] (by simp [z2.mid, z4.mid]) (by simp) H) ⟨wk_agg ⟨wk_row (by simp), wk_row (by simp), trivial⟩, trivial⟩
  have j1 : ∀ H, VDet Tryd.prog 16 [.int .u8 6, .sx 2 (a.cells ++ b.cells)] H (.agg (Fm.f2 6 a b).cells) := fun H => VDet.wk (join2_c 6 a b H) ⟨Wk.refl _, wk_sx _ _, trivial⟩
  have j2 : ∀ H, VDet Tryd.prog 16 [.int .u8 4, .sx 2 (b.cells ++ d.cells)] H (.agg (Fm.f2 4 b d).cells) := fun H => VDet.wk (join2_c 4 b d H) ⟨Wk.refl _, wk_sx _ _, trivial⟩
  have j3 : ∀ H, VDet Tryd.prog 16 [.int .u8 3, .sx 1 b.cells] H (.agg (Fm.f1 3 b).cells) := fun H => VDet.wk (join1_c 3 b H) ⟨Wk.refl _, wk_sx _ _, trivial⟩
  have p1 := ded1 a b c
  have p2 := ded2 a b c d
  have p3 := ded3 a b c
  have p4 := ded4 a b d
  generalize (falV [c, a] [b]).isNone = x at *
  generalize (falV [c] [.f2 6 a b]).isNone = y at *
  generalize (falV [d, c, a] [b]).isNone = z at *
  generalize (falV [.f1 3 b, c, a] []).isNone = w at *
  generalize (falV [a] [.f2 4 b d]).isNone = u at *
  generalize (falV [a] [b]).isNone = p at *
  generalize (falV [a] [d]).isNone = q at *
  subst p1 p3 p4
  clear z1 z2 z3 z4
  refine fn_det Tryd.E0 Tryd.mx Tryd.func4 (by kernel_rfl) rfl (Nat.le_of_ble_eq_true rfl) rfl fun hcl hbl => ?_
  (repeat' ((conv => whnf); (first | (refine IfN.id ?_; first | refine IfN.not ?_ | refine IfN.tt rfl ?_ | refine IfN.dT (by omega) ?_ | refine IfN.dec (fun _ => ?_) (fun _ => ?_) | (refine IfN.mk ?_ ?_ <;> intro _) | fail) | (refine EqN.id ?_; first | (refine EqN.addN _ _ (by first | with_reducible rfl | with_reducible exact cst1 | with_reducible exact cst0 | with_reducible exact cst2 | with_reducible exact cst3 | with_reducible exact cst4 | with_reducible exact cst5 | with_reducible exact cst6 | with_reducible exact cst7 | with_reducible exact cst8 | with_reducible exact cst14 | with_reducible exact cst15 | with_reducible exact cst25 | with_reducible exact cst30 | with_reducible exact cst31 | fail) (by first | with_reducible rfl | with_reducible exact cst1 | with_reducible exact cst0 | with_reducible exact cst2 | with_reducible exact cst3 | with_reducible exact cst4 | with_reducible exact cst5 | with_reducible exact cst6 | with_reducible exact cst7 | with_reducible exact cst8 | with_reducible exact cst14 | with_reducible exact cst15 | with_reducible exact cst25 | with_reducible exact cst30 | with_reducible exact cst31 | fail) ?_ ?_; · (repeat' (first | omega | refine And.intro ?_ ?_ | exact bnd_andl (by omega) | exact bnd_andr (by omega) | refine bnd_or ?_ ?_ | refine bnd_or31 ?_ ?_ | refine bnd_xor ?_ ?_ | refine bnd_xor31 ?_ ?_ | refine bnd_shr ?_ | refine bnd_shl ?_ ?_ | refine bnd_mod ?_ | refine bnd_andl ?_ | fail))) | fail) | (refine SideN.mk ?_ ?_; · first | kernel_rfl | omega | exact List.cons_ne_nil _ _ | (simp; done) | (simp; omega) | exact trivial | assumption | fail) | (refine CallN.id ?_; first | refine CallN.det _ (awake_c _) ?_ | refine CallN.det _ (b1 _) ?_ | refine CallN.det _ (b2 _) ?_ | refine CallN.det _ (b3 _) ?_ | refine CallN.det _ (b4 _) ?_ | refine CallN.det _ (f1 _) ?_ | refine CallN.det _ (f3 _) ?_ | refine CallN.det _ (f6 _) ?_ | refine CallN.det _ (f7 _) ?_ | fail) | (refine CallD.id ?_; first | refine CallD.det _ (fun _ hq X => j1 _) ?_ | refine CallD.det _ (fun _ hq X => j2 _) ?_ | refine CallD.det _ (fun _ hq X => j3 _) ?_ | refine CallD.det _ (fun _ hq X => f2 _) ?_ | refine CallD.det _ (fun _ hq X => f4 _) ?_ | refine CallD.det _ (fun _ hq X => f5 _) ?_ | fail) | refine DrawN.mk' [] ?_ | fail))); all_goals (conv => whnf)
  all_goals
    refine EndN.det trivial (Wk.of_eq (congrArg AV.bool ?_))
    simp_all
end Go.Proofs.YtekhodpmpjehaaaDoor
/-! text RX10 -/
namespace Go.Proofs.YtekhodpmpjehaaaDoor
open Go.Vsi
set_option maxHeartbeats 4000000
attribute [local irreducible] VW VCall VO bits

/-! ### the law TruthEqual -/
structure Fm.GI (f : Fm) : Prop where
  good : f.Good
  inl : f.In lets
theorem Fm.Mid.gi {f : Fm} (h : f.Mid) : f.GI := ⟨h.good, h.nice.inl⟩
theorem Fm.Mid.n1 {f : Fm} {m : Nat} (h : f.Nice) (h1 : f.nodes ≤ m) (h2 : f.depth ≤ m) (hm : m ≤ 40) : f.Mid := ⟨h, by omega, by omega⟩
theorem not_c (f : Fm) (H : Heap) : VDet Tryd.prog 23 [.agg f.cells] H (.agg (Fm.f1 3 f).cells) := by
  have j3 : ∀ H, VDet Tryd.prog 16 [.int .u8 3, .sx 1 f.cells] H (.agg (Fm.f1 3 f).cells) := fun H => VDet.wk (join1_c 3 f H) ⟨Wk.refl _, wk_sx _ _, trivial⟩
  refine fn_det Tryd.E0 Tryd.mx Tryd.func23 (by kernel_rfl) rfl (Nat.le_of_ble_eq_true rfl) rfl fun hcl hbl => ?_
  (repeat' ((conv => whnf); (first | (refine CallN.id ?_; first | refine CallN.det _ (j3 _) ?_ | fail) | refine DrawN.mk' [] ?_ | fail))); all_goals (conv => whnf)
  exact EndN.det (by simp [Fm.cells, below, belowL, Fm.sc_below]) (Wk.refl _)
theorem is_c (f g : Fm) (hf : f.GI) (hg : g.GI) (H : Heap) : VDet Tryd.prog 24 [.agg f.cells, .agg g.cells] H (.bool (eqAll f g)) := by
  have h1 := equal_c f g hf.good hg.good (names_12 _ (by simp [hf.inl, hg.inl]))
  generalize eqAll f g = b at *
  refine fn_det Tryd.E0 Tryd.mx Tryd.func24 (by kernel_rfl) rfl (Nat.le_of_ble_eq_true rfl) rfl fun hcl hbl => ?_
  (repeat' ((conv => whnf); (first | (refine IfN.id ?_; first | (refine IfN.mk ?_ ?_ <;> intro _) | fail) | (refine CallN.id ?_; first | refine CallN.det _ (h1 _) ?_ | fail) | refine DrawN.mk' [] ?_ | fail))); all_goals (conv => whnf)
  all_goals exact EndN.det trivial (Wk.of_eq (by simp_all))
theorem wk2 (a b : Fm) : Wk (.sx 2 (a.cells ++ b.cells)) (.sl none 2 (a.cells ++ b.cells)) := wk_sx _ _
theorem jn2 (k : Nat) (a b : Fm) (H : Heap) : VDet Tryd.prog 16 [.int .u8 k, .sx 2 (a.cells ++ b.cells)] H (.agg (Fm.f2 k a b).cells) := VDet.wk (join2_c k a b H) ⟨Wk.refl _, wk_sx _ _, trivial⟩
theorem eqAll_of {f g : Fm} (h : ∀ r, f.ev r = g.ev r) : eqAll f g = true := (eqAll_iff f g).2 h
theorem equal_law (l m n : List Nat) (hl : l.length ≤ 9223372036854775807) (hb : ∀ i, i < l.length → l.getD i 0 ≤ 255) (hm : m.length ≤ 9223372036854775807) (hc : ∀ i, i < m.length → m.getD i 0 ≤ 255) (hn : n.length ≤ 9223372036854775807) (hd : ∀ i, i < n.length → n.getD i 0 ≤ 255) (H : Heap) :
    VDet Tryd.prog 8 [.sl none l.length (l.flatMap encB), .sl none m.length (m.flatMap encB), .sl none n.length (n.flatMap encB)] H (.bool true) := by
  have b1 := built_take l 9 hb (by omega)
  have b2 := built_take m 9 hc (by omega)
  have b3 := built_take n 9 hd (by omega)
  have z1 := blt12 l 9
  have z2 := blt12 m 9
  have z3 := blt12 n 9
  generalize bltF (l.take 9) = f at *
  generalize bltF (m.take 9) = g at *
  generalize bltF (n.take 9) = h at *
  have n1 := z1.nodes
  have n2 := z2.nodes
  have n3 := z3.nodes
  have d1 := z1.depth
  have d2 := z2.depth
  have d3 := z3.depth
  have mf : f.Mid := ⟨z1.nice, by omega, by omega⟩
  have mg : g.Mid := ⟨z2.nice, by omega, by omega⟩
  have mh : h.Mid := ⟨z3.nice, by omega, by omega⟩
  have mnf : (Fm.f1 3 f).Mid := ⟨nice_1 z1.nice, by simp only [Fm.nodes]; omega, by simp only [Fm.depth]; omega⟩
  have mng : (Fm.f1 3 g).Mid := ⟨nice_1 z2.nice, by simp only [Fm.nodes]; omega, by simp only [Fm.depth]; omega⟩
  have mnnf : (Fm.f1 3 (.f1 3 f)).Mid := ⟨nice_1 mnf.nice, by simp only [Fm.nodes]; omega, by simp only [Fm.depth]; omega⟩
  have m2 : ∀ a b : Fm, ∀ k, (k = 4 ∨ k = 5 ∨ k = 6 ∨ k = 7) → a.Nice → b.Nice → a.nodes ≤ 60 → b.nodes ≤ 60 → a.depth ≤ 20 → b.depth ≤ 20 → (Fm.f2 k a b).Mid := fun a b k hk ha hb p1 p2 p3 p4 => ⟨nice_2 ha hb k hk, by simp only [Fm.nodes]; omega, by simp only [Fm.depth]; omega⟩
  have mimp : (Fm.f2 6 f g).Mid := m2 f g 6 (by omega) z1.nice z2.nice (by omega) (by omega) (by omega) (by omega)
  have mimp' : (Fm.f2 6 g f).Mid := m2 g f 6 (by omega) z2.nice z1.nice (by omega) (by omega) (by omega) (by omega)
  have mand : (Fm.f2 4 f g).Mid := m2 f g 4 (by omega) z1.nice z2.nice (by omega) (by omega) (by omega) (by omega)
  have mor : (Fm.f2 5 f g).Mid := m2 f g 5 (by omega) z1.nice z2.nice (by omega) (by omega) (by omega) (by omega)
  have miff : (Fm.f2 7 f g).Mid := m2 f g 7 (by omega) z1.nice z2.nice (by omega) (by omega) (by omega) (by omega)
  have monf : (Fm.f2 5 (.f1 3 f) g).Mid := m2 _ _ 5 (by omega) mnf.nice z2.nice (by simp only [Fm.nodes]; omega) (by omega) (by simp only [Fm.depth]; omega) (by omega)
  have monn : (Fm.f2 5 (.f1 3 f) (.f1 3 g)).Mid := m2 _ _ 5 (by omega) mnf.nice mng.nice (by simp only [Fm.nodes]; omega) (by simp only [Fm.nodes]; omega) (by simp only [Fm.depth]; omega) (by simp only [Fm.depth]; omega)
  have mann : (Fm.f2 4 (.f1 3 f) (.f1 3 g)).Mid := m2 _ _ 4 (by omega) mnf.nice mng.nice (by simp only [Fm.nodes]; omega) (by simp only [Fm.nodes]; omega) (by simp only [Fm.depth]; omega) (by simp only [Fm.depth]; omega)
  have mnand : (Fm.f1 3 (.f2 4 f g)).Mid := ⟨nice_1 mand.nice, by simp only [Fm.nodes]; omega, by simp only [Fm.depth]; omega⟩
  have mnor : (Fm.f1 3 (.f2 5 f g)).Mid := ⟨nice_1 mor.nice, by simp only [Fm.nodes]; omega, by simp only [Fm.depth]; omega⟩
  have mii : (Fm.f2 4 (.f2 6 f g) (.f2 6 g f)).Mid := m2 _ _ 4 (by omega) mimp.nice mimp'.nice (by simp only [Fm.nodes]; omega) (by simp only [Fm.nodes]; omega) (by simp only [Fm.depth]; omega) (by simp only [Fm.depth]; omega)
  have i1 := is_c f f mf.gi mf.gi
  have i2 := is_c _ f mnnf.gi mf.gi
  have i3 := is_c _ _ mimp.gi monf.gi
  have i4 := is_c _ _ mnand.gi monn.gi
  have i5 := is_c _ _ mnor.gi mann.gi
  have i6 := is_c _ _ miff.gi mii.gi
  have i7 := is_c f g mf.gi mg.gi
  have i8 := is_c g f mg.gi mf.gi
  have i9 := is_c g h mg.gi mh.gi
  have i10 := is_c f h mf.gi mh.gi
  have i11 := is_c (putF 130 f h) (putF 130 g h) ⟨put_good z3 z1 (by omega), (put_nice z1.nice h z3.nice).inl⟩ ⟨put_good z3 z2 (by omega), (put_nice z2.nice h z3.nice).inl⟩
  rw [eqAll_of (fun _ => rfl)] at i1
  rw [eqAll_of (fun r => by simp [Fm.ev])] at i2
  rw [eqAll_of (fun r => by simp [Fm.ev])] at i3
  rw [eqAll_of (fun r => by simp [Fm.ev])] at i4
  rw [eqAll_of (fun r => by simp [Fm.ev])] at i5
  rw [eqAll_of (fun r => by simp only [Fm.ev]; cases f.ev r <;> cases g.ev r <;> rfl)] at i6
  rw [show eqAll g f = eqAll f g from b_eq (by rw [eqAll_iff, eqAll_iff]; exact ⟨fun e r => (e r).symm, fun e r => (e r).symm⟩)] at i8
  have t1 : eqAll f g = true → eqAll g h = true → eqAll f h = true := by
    rw [eqAll_iff, eqAll_iff, eqAll_iff]
    exact fun p q r => (p r).trans (q r)
  have t2 : eqAll f g = true → eqAll (putF 130 f h) (putF 130 g h) = true := by
    rw [eqAll_iff, eqAll_iff]
    intro p r
    rw [ev_put, ev_put, p r]
  have fo : ∀ H, VDet Tryd.prog 15 [.agg [.nils, .sx 1 (Fm.f2 7 f g).cells]] H (.tup [.bool (falV [] [.f2 7 f g]).isNone, .int .i64 0]) := fun H =>
    VDet.wk (fol_c [] [.f2 7 f g] (by simp [miff]) (by simp) H) ⟨wk_agg ⟨wk_nils, wk_row (by simp), trivial⟩, trivial⟩
  rw [show (falV [] [.f2 7 f g]).isNone = eqAll f g from b_eq (by
    rw [isNone_iff, eqAll_iff]
    refine forall_congr' fun r => ?_
    simp only [falR, List.all_cons, List.all_nil, Fm.ev]
    cases f.ev r <;> cases g.ev r <;> simp)] at fo
  have p1 : ∀ H, VDet Tryd.prog 13 [.agg h.cells, .str ⟨#[65]⟩, .agg f.cells] H (.agg (putF 130 f h).cells) := put_c 130 f h z3.nice.pr
  have p2 : ∀ H, VDet Tryd.prog 13 [.agg h.cells, .str ⟨#[65]⟩, .agg g.cells] H (.agg (putF 130 g h).cells) := put_c 130 g h z3.nice.pr
  have nf := not_c f
  have ng := not_c g
  have nnf := not_c (.f1 3 f)
  have nand := not_c (.f2 4 f g)
  have nor := not_c (.f2 5 f g)
  have j1 := jn2 6 f g
  have j2 := jn2 6 g f
  have j3 := jn2 4 f g
  have j4 := jn2 5 f g
  have j5 := jn2 7 f g
  have j6 := jn2 5 (.f1 3 f) g
  have j7 := jn2 5 (.f1 3 f) (.f1 3 g)
  have j8 := jn2 4 (.f1 3 f) (.f1 3 g)
  have j9 := jn2 4 (.f2 6 f g) (.f2 6 g f)
  generalize eqAll f g = e1 at *
  generalize eqAll g h = e2 at *
  generalize eqAll f h = e3 at *
  generalize eqAll (putF 130 f h) (putF 130 g h) = e4 at *
  generalize putF 130 f h = pf at *
  generalize putF 130 g h = pg at *
  clear n1 n2 n3 d1 d2 d3 mf mg mh mnf mng mnnf m2 mimp mimp' mand mor miff monf monn mann mnand mnor mii z1 z2 z3
  refine fn_det Tryd.E0 Tryd.mx Tryd.func8 (by kernel_rfl) rfl (Nat.le_of_ble_eq_true rfl) rfl fun hcl hbl => ?_
  (repeat' ((conv => whnf); (first | (refine IfN.id ?_; first | refine IfN.not ?_ | refine IfN.tt rfl ?_ | refine IfN.dT (by omega) ?_ | refine IfN.dec (fun _ => ?_) (fun _ => ?_) | refine IfN.tt (by assumption) ?_ | refine IfN.ff (by assumption) ?_ | (refine IfN.mk ?_ ?_ <;> intro _) | fail) | (refine SideN.mk ?_ ?_; · first | kernel_rfl | omega | exact List.cons_ne_nil _ _ | (simp; done) | (simp; omega) | exact trivial | assumption | fail) | refine NatN.at_ (by omega) ?_ | (refine CallN.id ?_; first | refine CallN.det _ (awake_c _) ?_ | refine CallN.det _ (fo _) ?_ | refine CallN.det _ (j5 _) ?_ | fail) | (refine CallD.id ?_; first | refine CallD.det _ (fun _ hq X => b1 _) ?_ | refine CallD.det _ (fun _ hq X => b2 _) ?_ | refine CallD.det _ (fun _ hq X => b3 _) ?_ | refine CallD.det _ (fun _ hq X => i1 _) ?_ | refine CallD.det _ (fun _ hq X => i2 _) ?_ | refine CallD.det _ (fun _ hq X => i3 _) ?_ | refine CallD.det _ (fun _ hq X => i4 _) ?_ | refine CallD.det _ (fun _ hq X => i5 _) ?_ | refine CallD.det _ (fun _ hq X => i6 _) ?_ | refine CallD.det _ (fun _ hq X => i7 _) ?_ | refine CallD.det _ (fun _ hq X => i8 _) ?_ | refine CallD.det _ (fun _ hq X => i9 _) ?_ | refine CallD.det _ (fun _ hq X => i10 _) ?_ | refine CallD.det _ (fun _ hq X => i11 _) ?_ | refine CallD.det _ (fun _ hq X => p1 _) ?_ | refine CallD.det _ (fun _ hq X => p2 _) ?_ | refine CallD.det _ (fun _ hq X => nf _) ?_ | refine CallD.det _ (fun _ hq X => ng _) ?_ | refine CallD.det _ (fun _ hq X => nnf _) ?_ | refine CallD.det _ (fun _ hq X => nand _) ?_ | refine CallD.det _ (fun _ hq X => nor _) ?_ | refine CallD.det _ (fun _ hq X => j1 _) ?_ | refine CallD.det _ (fun _ hq X => j2 _) ?_ | refine CallD.det _ (fun _ hq X => j3 _) ?_ | refine CallD.det _ (fun _ hq X => j4 _) ?_ | refine CallD.det _ (fun _ hq X => j5 _) ?_ | refine CallD.det _ (fun _ hq X => j6 _) ?_ | refine CallD.det _ (fun _ hq X => j7 _) ?_ | refine CallD.det _ (fun _ hq X => j8 _) ?_ | refine CallD.det _ (fun _ hq X => j9 _) ?_ | fail) | refine SubN.flat (lo := 0) (n := (min ((l.length : Nat) : Int) 9).toNat - 0) (fun _ => rfl) (by omega) ?_ | refine SubN.flat (lo := 0) (n := (min ((m.length : Nat) : Int) 9).toNat - 0) (fun _ => rfl) (by omega) ?_ | refine SubN.flat (lo := 0) (n := (min ((n.length : Nat) : Int) 9).toNat - 0) (fun _ => rfl) (by omega) ?_ | refine DrawN.mk' [] ?_ | fail))); all_goals (conv => whnf)
  all_goals
    refine EndN.det trivial (Wk.of_eq (congrArg AV.bool ?_))
    clear b1 b2 b3 i1 i2 i3 i4 i5 i6 i7 i8 i9 i10 i11 fo p1 p2 nf ng nnf nand nor j1 j2 j3 j4 j5 j6 j7 j8 j9
    simp_all

end Go.Proofs.YtekhodpmpjehaaaDoor
/-! text RZ10 -/
namespace Go.Proofs.YtekhodpmpjehaaaDoor
open Go.Vsi
set_option maxHeartbeats 4000000

/-! ### the law TruthCounts -/
theorem Fm.cb (n : Nat) (f : Fm) : belowL n f.cells := by simp [Fm.cells, belowL, below, Fm.sc_below]
def encT (F : Nat → Bool) (v : Nat) : List AV := [.bool (F v)]
theorem encT_below (F : Nat → Bool) (n : Nat) (l : List Nat) : belowL n (l.flatMap (encT F)) := belowL_flat _ fun x => by simp [encT, belowL, below]
theorem table_flat (F : Nat → Bool) : ∀ l : List Nat, (l.map fun v => AV.bool (F v)) = l.flatMap (encT F)
  | [] => rfl
  | v :: l => by simp [encT, table_flat F l]
theorem cntS_succ (F : Nat → Bool) (i : Nat) : cntS (i + 1) F = cntS i F + (F i).toNat := by
  rw [cntS_add]
  congr 1
theorem cnt_not (S : Nat) (F : Nat → Bool) : cntS S F + cntS S (fun v => !F v) = S := by
  induction S with
  | zero => rfl
  | succ n ih =>
    rw [cntS_succ, cntS_succ]
    cases F n <;> simp <;> omega
theorem cnt_or_and (S : Nat) (F G : Nat → Bool) : cntS S (fun v => F v || G v) + cntS S (fun v => F v && G v) = cntS S F + cntS S G := by
  induction S with
  | zero => rfl
  | succ n ih =>
    rw [cntS_succ, cntS_succ, cntS_succ, cntS_succ]
    cases F n <;> cases G n <;> simp <;> omega
theorem cnt_wide (f : Fm) (hf : f.In lets) : cntS 4096 (fun v => f.ev (vb lets v)) = 2 ^ (12 - (namesL [f]).length) * cntS (2 ^ (namesL [f]).length) (fun v => f.ev (vb (namesL [f]) v)) :=
  cP_wide (names_sub [f] (by simp [hf])) lets_nodup (fun r => f.ev r) (dep_ev (names_in (by simp)))
/-- four counts, of which that with the number k is under way -/
def bx (N : Nat → Nat) (k c : Nat) : List AV := match k with
  | 0 => [.int .i64 c, .int .i64 0, .int .i64 0, .int .i64 0]
  | 1 => [.int .i64 (N 0), .int .i64 c, .int .i64 0, .int .i64 0]
  | 2 => [.int .i64 (N 0), .int .i64 (N 1), .int .i64 c, .int .i64 0]
  | 3 => [.int .i64 (N 0), .int .i64 (N 1), .int .i64 (N 2), .int .i64 c]
  | _ => [.int .i64 (N 0), .int .i64 (N 1), .int .i64 (N 2), .int .i64 (N 3)]
theorem bx_below (N : Nat → Nat) (k c n : Nat) : belowL n (bx N k c) := by
  unfold bx
  split <;> simp [belowL, below]
theorem SegN.rngB {F : Nat → Bool} {S : Nat} {i : Int} {k : List AV → Prop} {b : Bool} (m : Nat) (hi : i = m) (hm : m < S) (hb : F m = b) (h : k [.bool b]) : SegN ((List.range S).flatMap (encT F)) (i.toNat * 1) k :=
  SegN.nth 0 m hi (by rw [List.length_range]; exact hm) (fun _ => rfl) (by
    have : (List.range S).getD m 0 = m := by simp [List.getD_eq_getElem?_getD, hm]
    rw [this]
    show k [.bool (F m)]
    rw [hb]
    exact h)
attribute [local irreducible] VW VCall VO bits cntS
theorem counts_c (l m : List Nat) (hl : l.length ≤ 9223372036854775807) (hb : ∀ i, i < l.length → l.getD i 0 ≤ 255) (hm : m.length ≤ 9223372036854775807) (hc : ∀ i, i < m.length → m.getD i 0 ≤ 255) (H : Heap) :
    VDet Tryd.prog 5 [.sl none l.length (l.flatMap encB), .sl none m.length (m.flatMap encB)] H (.bool true) := by
  have b1 := built_c l hl hb
  have b2 := built_c m hm hc
  have z1 := blt30 l
  have z2 := blt30 m
  generalize bltF l = f at *
  generalize bltF m = g at *
  generalize l.flatMap encB = lb at *
  generalize m.flatMap encB = mb at *
  have mf := z1.mid
  have mnf := z1.mid1
  have mor := z1.mid2 z2 5 (by omega)
  have mand := z1.mid2 z2 4 (by omega)
  have h12 := names_12 [f] (by simp [z1.nice.inl])
  have hok := namesL_ok [f] fun x hx => by simp only [List.mem_singleton] at hx; exact hx ▸ z1.nice.ok
  have c1 := count_c f mf.good h12
  have c2 := count_c (.f1 3 f) mnf.good h12
  have at1 : ∀ H, VDet Tryd.prog 18 [.sx 1 f.cells] H (.sl none (namesL [f]).length ((namesL [f]).flatMap encS)) := fun H => VDet.wk (atoms_c [f] (by simp [z1.nice.pr]) (by have := nodesL_mid [f] (by simp [mf]); simp only [List.length_singleton] at this; omega) (by simp) H) ⟨wk_row (by simp), trivial⟩
  have tb := table_c f mf.good (namesL [f]) hok h12 (names_in (by simp))
  have hok2 := lets_ok
  have tl := fun x (hx : x.Mid) => table_c x hx.good lets hok2 (by decide) hx.nice.inl
  have e1 : cntS (2 ^ (namesL [.f1 3 f]).length) (fun v => (Fm.f1 3 f).ev (vb (namesL [.f1 3 f]) v)) = cntS (2 ^ (namesL [f]).length) (fun v => !f.ev (vb (namesL [f]) v)) := rfl
  rw [e1, show namesL [.f1 3 f] = namesL [f] from rfl] at c2
  have e2 := cnt_not (2 ^ (namesL [f]).length) (fun v => f.ev (vb (namesL [f]) v))
  have e3 := cnt_wide f z1.nice.inl
  have e4 := cnt_or_and 4096 (fun v => f.ev (vb lets v)) (fun v => g.ev (vb lets v))
  have tl0 := tl f z1.mid
  have tl1 := tl g z2.mid
  have tl2 := tl _ mor
  have tl3 := tl _ mand
  have ll : ∀ x : Fm, ((List.range (2 ^ lets.length)).map fun v => AV.bool (x.ev (vb lets v))) = (List.range 4096).flatMap (encT fun v => x.ev (vb lets v)) := fun x => table_flat _ _
  rw [ll] at tl0 tl1 tl2 tl3
  rw [table_flat] at tb
  have h2l := two_le (namesL [f]) h12
  obtain ⟨N, n0, n1, n2, n3⟩ : ∃ N : Nat → Nat, N 0 = cntS 4096 (fun v => f.ev (vb lets v)) ∧ N 1 = cntS 4096 (fun v => g.ev (vb lets v)) ∧ N 2 = cntS 4096 (fun v => f.ev (vb lets v) || g.ev (vb lets v)) ∧ N 3 = cntS 4096 (fun v => f.ev (vb lets v) && g.ev (vb lets v)) :=
    ⟨fun i => match i with
      | 0 => cntS 4096 (fun v => f.ev (vb lets v))
      | 1 => cntS 4096 (fun v => g.ev (vb lets v))
      | 2 => cntS 4096 (fun v => f.ev (vb lets v) || g.ev (vb lets v))
      | _ => cntS 4096 (fun v => f.ev (vb lets v) && g.ev (vb lets v)), rfl, rfl, rfl, rfl⟩
  rw [← n0] at e3
  rw [← n0, ← n1, ← n2, ← n3] at e4
  have hN0 : N 0 ≤ 4096 := by rw [n0]; exact cntS_le _ _
  have hN1 : N 1 ≤ 4096 := by rw [n1]; exact cntS_le _ _
  have hN2 : N 2 ≤ 4096 := by rw [n2]; exact cntS_le _ _
  have hN3 : N 3 ≤ 4096 := by rw [n3]; exact cntS_le _ _
  generalize (namesL [f]).flatMap encS = nb at *
  generalize hF : (fun v => f.ev (vb (namesL [f]) v)) = F at *
  have hF2 : (fun v => !f.ev (vb (namesL [f]) v)) = fun v => !F v := by subst hF; rfl
  rw [hF2] at c2 e2
  have two : ∀ n : Nat, n ≤ 12 → EqN (IntKind.i64.wrap (1 * 2 ^ min ((n : Nat) : Int).toNat IntKind.i64.bits)) fun y => y = ((2 ^ n : Nat) : Int) := fun n hn => EqN.two n (by omega) rfl
  obtain ⟨_, w1, rfl⟩ := two _ h12
  have w2 : IntKind.i64.wrap ((cntS (2 ^ (namesL [f]).length) F : Nat) * 2 ^ min (((12 - (namesL [f]).length : Nat) : Nat) : Int).toNat IntKind.i64.bits) = ((N 0 : Nat) : Int) := by
    obtain ⟨y, e, h⟩ := EqN.shlN (k := fun y => y = ((N 0 : Nat) : Int)) (x := ((cntS (2 ^ (namesL [f]).length) F : Nat) : Int)) (y := ((12 - (namesL [f]).length : Nat) : Int)) (b := 64) _ _ rfl rfl rfl (by omega) (by rw [Nat.shiftLeft_eq, Nat.mul_comm, ← e3]; omega) (by rw [Nat.shiftLeft_eq, Nat.mul_comm, ← e3])
    exact e.trans h
  generalize 2 ^ (namesL [f]).length = S at *
  generalize (namesL [f]).length = k at *
  have w3 : IntKind.i64.wrap (12 - (k : Int)) = ((12 - k : Nat) : Int) := by rw [IntWalk.i64_in _ (by omega)]; omega
  have hA : cntS S F ≤ 4096 := by omega
  have hB : cntS S (fun v => !F v) ≤ 4096 := by omega
  generalize cntS S (fun v => !F v) = B at *
  have hs1 : ∀ i, cntS (i + 1) F = cntS i F + (F i).toNat := cntS_succ F
  have hs0 := cntS_nil F
  have hsl : ∀ i, cntS i F ≤ i := fun i => cntS_le i F
  have jn := jn2
  have j1 : ∀ H, VDet Tryd.prog 16 [.int .u8 3, .sx 1 f.cells] H (.agg (Fm.f1 3 f).cells) := fun H => VDet.wk (join1_c 3 f H) ⟨Wk.refl _, wk_sx _ _, trivial⟩
  have j2 := jn2 5 f g
  have j3 := jn2 4 f g
  generalize hM0 : (fun v => f.ev (vb lets v)) = F0 at *
  generalize hM1 : (fun v => g.ev (vb lets v)) = F1 at *
  have hM2 : (fun v => (Fm.f2 5 f g).ev (vb lets v)) = fun v => f.ev (vb lets v) || g.ev (vb lets v) := rfl
  have hM3 : (fun v => (Fm.f2 4 f g).ev (vb lets v)) = fun v => f.ev (vb lets v) && g.ev (vb lets v) := rfl
  rw [hM2] at tl2
  rw [hM3] at tl3
  clear hM2 hM3
  generalize (fun v => f.ev (vb lets v) || g.ev (vb lets v)) = F2 at *
  generalize (fun v => f.ev (vb lets v) && g.ev (vb lets v)) = F3 at *
  obtain ⟨T, hT⟩ : ∃ T, T = 4096 := ⟨_, rfl⟩
  have h4 : 2 ^ lets.length = T := by rw [hT]; rfl
  rw [h4] at tl0 tl1 tl2 tl3
  rw [← hT] at n0 n1 n2 n3
  have ra : ∀ G : Nat → Bool, (List.range 4096).flatMap (encT G) = (List.range T).flatMap (encT G) := fun G => by rw [hT]
  rw [ra] at tl0 tl1 tl2 tl3
  clear ra h4
  clear ll tl hM0 hM1 hF hF2 z1 z2 mf mnf mor mand hok hok2 e1
  refine fn_det Tryd.E0 Tryd.mx Tryd.func5 (by kernel_rfl) rfl (Nat.le_of_ble_eq_true rfl) rfl fun hcl hbl => ?_
  (repeat' ((conv => whnf); (first | (refine IfN.id ?_; first | refine IfN.not ?_ | refine IfN.tt rfl ?_ | fail) | (refine CallN.id ?_; first | refine CallN.det _ (awake_c _) ?_ | refine CallN.det _ (b1 _) ?_ | refine CallN.det _ (b2 _) ?_ | refine CallN.det _ (c1 _) ?_ | refine CallN.det _ (c2 _) ?_ | refine CallN.det _ (j1 _) ?_ | refine CallN.det _ (at1 _) ?_ | refine CallN.det _ (tb _) ?_ | fail) | refine DrawN.mk' [] ?_ | fail))); all_goals (conv => whnf)
  refine loop_R Tryd.E0 Tryd.mx (σ := Nat) (fun i => i ≤ S) (fun i => S - i) (fun i => [(16, .v (.int .i64 (cntS i F : Nat))), (57, .v (.int .i64 i))]) (fun _ => _) _ 0 rfl hcl [5, 6, 7, 8, 9, 10, 11, 12, 13, 14, 15, 55, 56] rfl (Nat.zero_le _) ⟨⟨_, rfl, Wk.of_eq (by rw [hs0]; rfl)⟩, ⟨_, rfl, Wk.refl _⟩, trivial⟩ rfl (fun _ _ => rfl) ?_
  intro i hi
  clear hbl
  have hsi := hs1 i
  have hli := hsl i
  by_cases hlt : i < S
  · cases hFi : F i with
    | true =>
      rw [hFi] at hsi
      simp only [Bool.toNat_true] at hsi
      (repeat' ((conv => whnf); (first | (refine IfN.id ?_; first | refine IfN.tt rfl ?_ | refine IfN.dT (by omega) ?_ | fail) | (refine EqN.id ?_; first | (refine EqN.addN _ _ (by first | with_reducible rfl | with_reducible exact cst1 | with_reducible exact cst0 | with_reducible exact cst2 | with_reducible exact cst3 | with_reducible exact cst4 | with_reducible exact cst5 | with_reducible exact cst6 | with_reducible exact cst7 | with_reducible exact cst8 | with_reducible exact cst14 | with_reducible exact cst15 | with_reducible exact cst25 | with_reducible exact cst30 | with_reducible exact cst31 | fail) (by first | with_reducible rfl | with_reducible exact cst1 | with_reducible exact cst0 | with_reducible exact cst2 | with_reducible exact cst3 | with_reducible exact cst4 | with_reducible exact cst5 | with_reducible exact cst6 | with_reducible exact cst7 | with_reducible exact cst8 | with_reducible exact cst14 | with_reducible exact cst15 | with_reducible exact cst25 | with_reducible exact cst30 | with_reducible exact cst31 | fail) ?_ ?_; · (repeat' (first | omega | refine And.intro ?_ ?_ | exact bnd_andl (by omega) | exact bnd_andr (by omega) | refine bnd_or ?_ ?_ | refine bnd_or31 ?_ ?_ | refine bnd_xor ?_ ?_ | refine bnd_xor31 ?_ ?_ | refine bnd_shr ?_ | refine bnd_shl ?_ ?_ | refine bnd_mod ?_ | refine bnd_andl ?_ | fail))) | fail) | (refine SideN.mk ?_ ?_; · first | kernel_rfl | omega | exact List.cons_ne_nil _ _ | (simp; done) | (simp; omega) | exact trivial | assumption | fail) | refine SegN.rngB i rfl hlt hFi ?_ | refine DrawN.mk' [] ?_ | fail))); all_goals (conv => whnf)
      (refine ⟨⟨i + 1, by omega, by omega, ?_, .inl ⟨rfl, rfl⟩, rfl, _, rfl, ?_⟩⟩; rotate_left 1; (first | exact .inl rfl | exact .inr ⟨by simp [belowRE, below, belowL, tr, encB_below, fms_below, Fm.sc_below, encS_below, encT_below, bx_below, Fm.cb], by simp [belowH, Blk.below, belowL, below, encB_below, fms_below, Fm.sc_below, encS_below, encT_below, bx_below, Fm.cb]⟩ | fail); (repeat' (first | exact trivial | refine ⟨⟨_, rfl, ?_⟩, ?_⟩ | fail)); all_goals try (first | exact Wk.refl _ | exact Wk.of_eq (congrArg (AV.int _) (by omega)) | fail))
    | false =>
      rw [hFi] at hsi
      simp only [Bool.toNat_false] at hsi
      (repeat' ((conv => whnf); (first | (refine IfN.id ?_; first | refine IfN.ff rfl ?_ | refine IfN.dT (by omega) ?_ | fail) | (refine EqN.id ?_; first | (refine EqN.addN _ _ (by first | with_reducible rfl | with_reducible exact cst1 | with_reducible exact cst0 | with_reducible exact cst2 | with_reducible exact cst3 | with_reducible exact cst4 | with_reducible exact cst5 | with_reducible exact cst6 | with_reducible exact cst7 | with_reducible exact cst8 | with_reducible exact cst14 | with_reducible exact cst15 | with_reducible exact cst25 | with_reducible exact cst30 | with_reducible exact cst31 | fail) (by first | with_reducible rfl | with_reducible exact cst1 | with_reducible exact cst0 | with_reducible exact cst2 | with_reducible exact cst3 | with_reducible exact cst4 | with_reducible exact cst5 | with_reducible exact cst6 | with_reducible exact cst7 | with_reducible exact cst8 | with_reducible exact cst14 | with_reducible exact cst15 | with_reducible exact cst25 | with_reducible exact cst30 | with_reducible exact cst31 | fail) ?_ ?_; · (repeat' (first | omega | refine And.intro ?_ ?_ | exact bnd_andl (by omega) | exact bnd_andr (by omega) | refine bnd_or ?_ ?_ | refine bnd_or31 ?_ ?_ | refine bnd_xor ?_ ?_ | refine bnd_xor31 ?_ ?_ | refine bnd_shr ?_ | refine bnd_shl ?_ ?_ | refine bnd_mod ?_ | refine bnd_andl ?_ | fail))) | fail) | (refine SideN.mk ?_ ?_; · first | kernel_rfl | omega | exact List.cons_ne_nil _ _ | (simp; done) | (simp; omega) | exact trivial | assumption | fail) | refine SegN.rngB i rfl hlt hFi ?_ | refine DrawN.mk' [] ?_ | fail))); all_goals (conv => whnf)
      (refine ⟨⟨i + 1, by omega, by omega, ?_, .inl ⟨rfl, rfl⟩, rfl, _, rfl, ?_⟩⟩; rotate_left 1; (first | exact .inl rfl | exact .inr ⟨by simp [belowRE, below, belowL, tr, encB_below, fms_below, Fm.sc_below, encS_below, encT_below, bx_below, Fm.cb], by simp [belowH, Blk.below, belowL, below, encB_below, fms_below, Fm.sc_below, encS_below, encT_below, bx_below, Fm.cb]⟩ | fail); (repeat' (first | exact trivial | refine ⟨⟨_, rfl, ?_⟩, ?_⟩ | fail)); all_goals try (first | exact Wk.refl _ | exact Wk.of_eq (congrArg (AV.int _) (by omega)) | fail))
  · obtain rfl : i = S := by omega
    (repeat' ((conv => whnf); (first | (refine IfN.id ?_; first | refine IfN.not ?_ | refine IfN.tt rfl ?_ | refine IfN.dT (by omega) ?_ | refine IfN.dF (by omega) ?_ | fail) | (refine EqN.id ?_; first | refine EqN.mk _ w1 ?_ | (refine EqN.addN _ _ (by first | with_reducible rfl | with_reducible exact cst1 | with_reducible exact cst0 | with_reducible exact cst2 | with_reducible exact cst3 | with_reducible exact cst4 | with_reducible exact cst5 | with_reducible exact cst6 | with_reducible exact cst7 | with_reducible exact cst8 | with_reducible exact cst14 | with_reducible exact cst15 | with_reducible exact cst25 | with_reducible exact cst30 | with_reducible exact cst31 | fail) (by first | with_reducible rfl | with_reducible exact cst1 | with_reducible exact cst0 | with_reducible exact cst2 | with_reducible exact cst3 | with_reducible exact cst4 | with_reducible exact cst5 | with_reducible exact cst6 | with_reducible exact cst7 | with_reducible exact cst8 | with_reducible exact cst14 | with_reducible exact cst15 | with_reducible exact cst25 | with_reducible exact cst30 | with_reducible exact cst31 | fail) ?_ ?_; · (repeat' (first | omega | refine And.intro ?_ ?_ | exact bnd_andl (by omega) | exact bnd_andr (by omega) | refine bnd_or ?_ ?_ | refine bnd_or31 ?_ ?_ | refine bnd_xor ?_ ?_ | refine bnd_xor31 ?_ ?_ | refine bnd_shr ?_ | refine bnd_shl ?_ ?_ | refine bnd_mod ?_ | refine bnd_andl ?_ | fail))) | fail) | (refine SideN.mk ?_ ?_; · first | kernel_rfl | omega | exact List.cons_ne_nil _ _ | (simp; done) | (simp; omega) | exact trivial | assumption | fail) | (refine CallD.id ?_; first | refine CallD.det _ (fun _ hq X => j2 _) ?_ | refine CallD.det _ (fun _ hq X => j3 _) ?_ | fail) | refine DrawN.mk' [] ?_ | fail))); all_goals (conv => whnf)
    refine loop_R Tryd.E0 Tryd.mx (σ := Nat) (fun q => q ≤ 4) (fun q => 4 - q) (fun q => [(113, .v (.int .i64 q))]) (fun q => [.box 28 f.cells, .box 28 g.cells, .box 49 (bx N q 0)]) _ 0 rfl hcl [7, 13, 19, 111, 112] rfl (Nat.zero_le _) ⟨⟨_, rfl, Wk.refl _⟩, trivial⟩ rfl (fun _ _ => rfl) ?_
    intro q hq
    have : q = 0 ∨ q = 1 ∨ q = 2 ∨ q = 3 ∨ q = 4 := by omega
    rcases this with rfl | rfl | rfl | rfl | rfl
    · (repeat' ((conv => whnf); (first | (refine IfN.id ?_; first | refine IfN.not ?_ | refine IfN.tt rfl ?_ | refine IfN.dT (by omega) ?_ | fail) | (refine SideN.mk ?_ ?_; · first | kernel_rfl | omega | exact List.cons_ne_nil _ _ | (simp; done) | (simp; omega) | exact trivial | assumption | fail) | (refine CallD.id ?_; first | refine CallD.det _ (fun _ hq X => letters_c _) ?_ | refine CallD.det _ (fun _ hq X => tl0 _) ?_ | fail) | refine SegN.mk _ (seg_rfl rfl) ?_ | refine DrawN.mk' [] ?_ | fail))); all_goals (conv => whnf)
      refine loop_R Tryd.E0 Tryd.mx (σ := Nat × Nat) (fun p => p.1 ≤ T ∧ p.2 = cntS p.1 F0) (fun p => T - p.1) (fun p => [(133, .v (.int .i64 p.1))]) (fun p => [.box 28 f.cells, .box 28 g.cells, .box 49 (bx N 0 p.2), .box 28 f.cells]) _ (0, 0) rfl hcl [7, 13, 19, 20, 111, 112, 113, 131, 132] rfl ⟨Nat.zero_le _, (cntS_nil _).symm⟩ ⟨⟨_, rfl, Wk.refl _⟩, trivial⟩ rfl (fun _ _ => rfl) ?_
      rintro ⟨j, c⟩ ⟨hj, hc⟩
      simp only at hj hc
      have hsj := cntS_succ F0 j
      have hlj := cntS_le j F0
      rw [← hc] at hsj hlj
      by_cases hlt : j < T
      · cases hFj : F0 j with
        | true =>
          rw [hFj] at hsj
          simp only [Bool.toNat_true] at hsj
          (repeat' ((conv => whnf); (first | (refine IfN.id ?_; first | refine IfN.tt rfl ?_ | refine IfN.dT (by omega) ?_ | fail) | (refine EqN.id ?_; first | (refine EqN.addN _ _ (by first | with_reducible rfl | with_reducible exact cst1 | with_reducible exact cst0 | with_reducible exact cst2 | with_reducible exact cst3 | with_reducible exact cst4 | with_reducible exact cst5 | with_reducible exact cst6 | with_reducible exact cst7 | with_reducible exact cst8 | with_reducible exact cst14 | with_reducible exact cst15 | with_reducible exact cst25 | with_reducible exact cst30 | with_reducible exact cst31 | fail) (by first | with_reducible rfl | with_reducible exact cst1 | with_reducible exact cst0 | with_reducible exact cst2 | with_reducible exact cst3 | with_reducible exact cst4 | with_reducible exact cst5 | with_reducible exact cst6 | with_reducible exact cst7 | with_reducible exact cst8 | with_reducible exact cst14 | with_reducible exact cst15 | with_reducible exact cst25 | with_reducible exact cst30 | with_reducible exact cst31 | fail) ?_ ?_; · (repeat' (first | omega | refine And.intro ?_ ?_ | exact bnd_andl (by omega) | exact bnd_andr (by omega) | refine bnd_or ?_ ?_ | refine bnd_or31 ?_ ?_ | refine bnd_xor ?_ ?_ | refine bnd_xor31 ?_ ?_ | refine bnd_shr ?_ | refine bnd_shl ?_ ?_ | refine bnd_mod ?_ | refine bnd_andl ?_ | fail))) | fail) | (refine SideN.mk ?_ ?_; · first | kernel_rfl | omega | exact List.cons_ne_nil _ _ | (simp; done) | (simp; omega) | exact trivial | assumption | fail) | refine SegN.rngB j rfl hlt hFj ?_ | refine OfsN.at_ (by omega) ?_ | refine DrawN.mk' [] ?_ | fail))); all_goals (conv => whnf)
          (refine ⟨⟨(j + 1, c + 1), ⟨by simp only; omega, by simp only; omega⟩, by omega, ?_, .inl ⟨rfl, rfl⟩, rfl, _, rfl, ?_⟩⟩; rotate_left 1; (first | exact .inl rfl | exact .inr ⟨by simp [belowRE, below, belowL, tr, encB_below, fms_below, Fm.sc_below, encS_below, encT_below, bx_below, Fm.cb], by simp [belowH, Blk.below, belowL, below, encB_below, fms_below, Fm.sc_below, encS_below, encT_below, bx_below, Fm.cb]⟩ | fail); (repeat' (first | exact trivial | refine ⟨⟨_, rfl, ?_⟩, ?_⟩ | fail)); all_goals try (first | exact Wk.refl _ | exact Wk.of_eq (congrArg (AV.int _) (by omega)) | fail))
        | false =>
          rw [hFj] at hsj
          simp only [Bool.toNat_false, Nat.add_zero] at hsj
          (repeat' ((conv => whnf); (first | (refine IfN.id ?_; first | refine IfN.ff rfl ?_ | refine IfN.dT (by omega) ?_ | fail) | (refine EqN.id ?_; first | (refine EqN.addN _ _ (by first | with_reducible rfl | with_reducible exact cst1 | with_reducible exact cst0 | with_reducible exact cst2 | with_reducible exact cst3 | with_reducible exact cst4 | with_reducible exact cst5 | with_reducible exact cst6 | with_reducible exact cst7 | with_reducible exact cst8 | with_reducible exact cst14 | with_reducible exact cst15 | with_reducible exact cst25 | with_reducible exact cst30 | with_reducible exact cst31 | fail) (by first | with_reducible rfl | with_reducible exact cst1 | with_reducible exact cst0 | with_reducible exact cst2 | with_reducible exact cst3 | with_reducible exact cst4 | with_reducible exact cst5 | with_reducible exact cst6 | with_reducible exact cst7 | with_reducible exact cst8 | with_reducible exact cst14 | with_reducible exact cst15 | with_reducible exact cst25 | with_reducible exact cst30 | with_reducible exact cst31 | fail) ?_ ?_; · (repeat' (first | omega | refine And.intro ?_ ?_ | exact bnd_andl (by omega) | exact bnd_andr (by omega) | refine bnd_or ?_ ?_ | refine bnd_or31 ?_ ?_ | refine bnd_xor ?_ ?_ | refine bnd_xor31 ?_ ?_ | refine bnd_shr ?_ | refine bnd_shl ?_ ?_ | refine bnd_mod ?_ | refine bnd_andl ?_ | fail))) | fail) | (refine SideN.mk ?_ ?_; · first | kernel_rfl | omega | exact List.cons_ne_nil _ _ | (simp; done) | (simp; omega) | exact trivial | assumption | fail) | refine SegN.rngB j rfl hlt hFj ?_ | refine DrawN.mk' [] ?_ | fail))); all_goals (conv => whnf)
          (refine ⟨⟨(j + 1, c), ⟨by simp only; omega, by simp only; omega⟩, by omega, ?_, .inl ⟨rfl, rfl⟩, rfl, _, rfl, ?_⟩⟩; rotate_left 1; (first | exact .inl rfl | exact .inr ⟨by simp [belowRE, below, belowL, tr, encB_below, fms_below, Fm.sc_below, encS_below, encT_below, bx_below, Fm.cb], by simp [belowH, Blk.below, belowL, below, encB_below, fms_below, Fm.sc_below, encS_below, encT_below, bx_below, Fm.cb]⟩ | fail); (repeat' (first | exact trivial | refine ⟨⟨_, rfl, ?_⟩, ?_⟩ | fail)); all_goals try (first | exact Wk.refl _ | exact Wk.of_eq (congrArg (AV.int _) (by omega)) | fail))
      · have hjT : j = T := by omega
        subst hjT
        rw [← n0] at hc
        subst hc
        (repeat' ((conv => whnf); (first | (refine IfN.id ?_; first | refine IfN.dF (by omega) ?_ | fail) | (refine EqN.id ?_; first | (refine EqN.addN _ _ (by first | with_reducible rfl | with_reducible exact cst1 | with_reducible exact cst0 | with_reducible exact cst2 | with_reducible exact cst3 | with_reducible exact cst4 | with_reducible exact cst5 | with_reducible exact cst6 | with_reducible exact cst7 | with_reducible exact cst8 | with_reducible exact cst14 | with_reducible exact cst15 | with_reducible exact cst25 | with_reducible exact cst30 | with_reducible exact cst31 | fail) (by first | with_reducible rfl | with_reducible exact cst1 | with_reducible exact cst0 | with_reducible exact cst2 | with_reducible exact cst3 | with_reducible exact cst4 | with_reducible exact cst5 | with_reducible exact cst6 | with_reducible exact cst7 | with_reducible exact cst8 | with_reducible exact cst14 | with_reducible exact cst15 | with_reducible exact cst25 | with_reducible exact cst30 | with_reducible exact cst31 | fail) ?_ ?_; · (repeat' (first | omega | refine And.intro ?_ ?_ | exact bnd_andl (by omega) | exact bnd_andr (by omega) | refine bnd_or ?_ ?_ | refine bnd_or31 ?_ ?_ | refine bnd_xor ?_ ?_ | refine bnd_xor31 ?_ ?_ | refine bnd_shr ?_ | refine bnd_shl ?_ ?_ | refine bnd_mod ?_ | refine bnd_andl ?_ | fail))) | fail) | refine DrawN.mk' [] ?_ | fail))); all_goals (conv => whnf)
        (refine ⟨⟨1, by omega, by omega, ?_, .inr ?_, rfl, _, rfl, ?_⟩⟩; rotate_left 2; (first | exact .inl rfl | exact .inr ⟨by simp [belowRE, below, belowL, tr, encB_below, fms_below, Fm.sc_below, encS_below, encT_below, bx_below, Fm.cb], by simp [belowH, Blk.below, belowL, below, encB_below, fms_below, Fm.sc_below, encS_below, encT_below, bx_below, Fm.cb]⟩ | fail); all_goals (repeat' (first | exact trivial | refine ⟨⟨_, rfl, ?_⟩, ?_⟩ | fail)); all_goals try (first | exact Wk.refl _ | exact Wk.of_eq (congrArg (AV.int _) (by omega)) | fail))
    · (repeat' ((conv => whnf); (first | (refine IfN.id ?_; first | refine IfN.not ?_ | refine IfN.tt rfl ?_ | refine IfN.dT (by omega) ?_ | fail) | (refine SideN.mk ?_ ?_; · first | kernel_rfl | omega | exact List.cons_ne_nil _ _ | (simp; done) | (simp; omega) | exact trivial | assumption | fail) | (refine CallD.id ?_; first | refine CallD.det _ (fun _ hq X => letters_c _) ?_ | refine CallD.det _ (fun _ hq X => tl1 _) ?_ | fail) | refine SegN.mk _ (seg_rfl rfl) ?_ | refine DrawN.mk' [] ?_ | fail))); all_goals (conv => whnf)
      refine loop_R Tryd.E0 Tryd.mx (σ := Nat × Nat) (fun p => p.1 ≤ T ∧ p.2 = cntS p.1 F1) (fun p => T - p.1) (fun p => [(133, .v (.int .i64 p.1))]) (fun p => [.box 28 f.cells, .box 28 g.cells, .box 49 (bx N 1 p.2), .box 28 g.cells]) _ (0, 0) rfl hcl [7, 13, 19, 20, 111, 112, 113, 131, 132] rfl ⟨Nat.zero_le _, (cntS_nil _).symm⟩ ⟨⟨_, rfl, Wk.refl _⟩, trivial⟩ rfl (fun _ _ => rfl) ?_
      rintro ⟨j, c⟩ ⟨hj, hc⟩
      simp only at hj hc
      have hsj := cntS_succ F1 j
      have hlj := cntS_le j F1
      rw [← hc] at hsj hlj
      by_cases hlt : j < T
      · cases hFj : F1 j with
        | true =>
          rw [hFj] at hsj
          simp only [Bool.toNat_true] at hsj
          (repeat' ((conv => whnf); (first | (refine IfN.id ?_; first | refine IfN.tt rfl ?_ | refine IfN.dT (by omega) ?_ | fail) | (refine EqN.id ?_; first | (refine EqN.addN _ _ (by first | with_reducible rfl | with_reducible exact cst1 | with_reducible exact cst0 | with_reducible exact cst2 | with_reducible exact cst3 | with_reducible exact cst4 | with_reducible exact cst5 | with_reducible exact cst6 | with_reducible exact cst7 | with_reducible exact cst8 | with_reducible exact cst14 | with_reducible exact cst15 | with_reducible exact cst25 | with_reducible exact cst30 | with_reducible exact cst31 | fail) (by first | with_reducible rfl | with_reducible exact cst1 | with_reducible exact cst0 | with_reducible exact cst2 | with_reducible exact cst3 | with_reducible exact cst4 | with_reducible exact cst5 | with_reducible exact cst6 | with_reducible exact cst7 | with_reducible exact cst8 | with_reducible exact cst14 | with_reducible exact cst15 | with_reducible exact cst25 | with_reducible exact cst30 | with_reducible exact cst31 | fail) ?_ ?_; · (repeat' (first | omega | refine And.intro ?_ ?_ | exact bnd_andl (by omega) | exact bnd_andr (by omega) | refine bnd_or ?_ ?_ | refine bnd_or31 ?_ ?_ | refine bnd_xor ?_ ?_ | refine bnd_xor31 ?_ ?_ | refine bnd_shr ?_ | refine bnd_shl ?_ ?_ | refine bnd_mod ?_ | refine bnd_andl ?_ | fail))) | fail) | (refine SideN.mk ?_ ?_; · first | kernel_rfl | omega | exact List.cons_ne_nil _ _ | (simp; done) | (simp; omega) | exact trivial | assumption | fail) | refine SegN.rngB j rfl hlt hFj ?_ | refine OfsN.at_ (by omega) ?_ | refine DrawN.mk' [] ?_ | fail))); all_goals (conv => whnf)
          (refine ⟨⟨(j + 1, c + 1), ⟨by simp only; omega, by simp only; omega⟩, by omega, ?_, .inl ⟨rfl, rfl⟩, rfl, _, rfl, ?_⟩⟩; rotate_left 1; (first | exact .inl rfl | exact .inr ⟨by simp [belowRE, below, belowL, tr, encB_below, fms_below, Fm.sc_below, encS_below, encT_below, bx_below, Fm.cb], by simp [belowH, Blk.below, belowL, below, encB_below, fms_below, Fm.sc_below, encS_below, encT_below, bx_below, Fm.cb]⟩ | fail); (repeat' (first | exact trivial | refine ⟨⟨_, rfl, ?_⟩, ?_⟩ | fail)); all_goals try (first | exact Wk.refl _ | exact Wk.of_eq (congrArg (AV.int _) (by omega)) | fail))
        | false =>
          rw [hFj] at hsj
          simp only [Bool.toNat_false, Nat.add_zero] at hsj
          (repeat' ((conv => whnf); (first | (refine IfN.id ?_; first | refine IfN.ff rfl ?_ | refine IfN.dT (by omega) ?_ | fail) | (refine EqN.id ?_; first | (refine EqN.addN _ _ (by first | with_reducible rfl | with_reducible exact cst1 | with_reducible exact cst0 | with_reducible exact cst2 | with_reducible exact cst3 | with_reducible exact cst4 | with_reducible exact cst5 | with_reducible exact cst6 | with_reducible exact cst7 | with_reducible exact cst8 | with_reducible exact cst14 | with_reducible exact cst15 | with_reducible exact cst25 | with_reducible exact cst30 | with_reducible exact cst31 | fail) (by first | with_reducible rfl | with_reducible exact cst1 | with_reducible exact cst0 | with_reducible exact cst2 | with_reducible exact cst3 | with_reducible exact cst4 | with_reducible exact cst5 | with_reducible exact cst6 | with_reducible exact cst7 | with_reducible exact cst8 | with_reducible exact cst14 | with_reducible exact cst15 | with_reducible exact cst25 | with_reducible exact cst30 | with_reducible exact cst31 | fail) ?_ ?_; · (repeat' (first | omega | refine And.intro ?_ ?_ | exact bnd_andl (by omega) | exact bnd_andr (by omega) | refine bnd_or ?_ ?_ | refine bnd_or31 ?_ ?_ | refine bnd_xor ?_ ?_ | refine bnd_xor31 ?_ ?_ | refine bnd_shr ?_ | refine bnd_shl ?_ ?_ | refine bnd_mod ?_ | refine bnd_andl ?_ | fail))) | fail) | (refine SideN.mk ?_ ?_; · first | kernel_rfl | omega | exact List.cons_ne_nil _ _ | (simp; done) | (simp; omega) | exact trivial | assumption | fail) | refine SegN.rngB j rfl hlt hFj ?_ | refine DrawN.mk' [] ?_ | fail))); all_goals (conv => whnf)
          (refine ⟨⟨(j + 1, c), ⟨by simp only; omega, by simp only; omega⟩, by omega, ?_, .inl ⟨rfl, rfl⟩, rfl, _, rfl, ?_⟩⟩; rotate_left 1; (first | exact .inl rfl | exact .inr ⟨by simp [belowRE, below, belowL, tr, encB_below, fms_below, Fm.sc_below, encS_below, encT_below, bx_below, Fm.cb], by simp [belowH, Blk.below, belowL, below, encB_below, fms_below, Fm.sc_below, encS_below, encT_below, bx_below, Fm.cb]⟩ | fail); (repeat' (first | exact trivial | refine ⟨⟨_, rfl, ?_⟩, ?_⟩ | fail)); all_goals try (first | exact Wk.refl _ | exact Wk.of_eq (congrArg (AV.int _) (by omega)) | fail))
      · have hjT : j = T := by omega
        subst hjT
        rw [← n1] at hc
        subst hc
        (repeat' ((conv => whnf); (first | (refine IfN.id ?_; first | refine IfN.dF (by omega) ?_ | fail) | (refine EqN.id ?_; first | (refine EqN.addN _ _ (by first | with_reducible rfl | with_reducible exact cst1 | with_reducible exact cst0 | with_reducible exact cst2 | with_reducible exact cst3 | with_reducible exact cst4 | with_reducible exact cst5 | with_reducible exact cst6 | with_reducible exact cst7 | with_reducible exact cst8 | with_reducible exact cst14 | with_reducible exact cst15 | with_reducible exact cst25 | with_reducible exact cst30 | with_reducible exact cst31 | fail) (by first | with_reducible rfl | with_reducible exact cst1 | with_reducible exact cst0 | with_reducible exact cst2 | with_reducible exact cst3 | with_reducible exact cst4 | with_reducible exact cst5 | with_reducible exact cst6 | with_reducible exact cst7 | with_reducible exact cst8 | with_reducible exact cst14 | with_reducible exact cst15 | with_reducible exact cst25 | with_reducible exact cst30 | with_reducible exact cst31 | fail) ?_ ?_; · (repeat' (first | omega | refine And.intro ?_ ?_ | exact bnd_andl (by omega) | exact bnd_andr (by omega) | refine bnd_or ?_ ?_ | refine bnd_or31 ?_ ?_ | refine bnd_xor ?_ ?_ | refine bnd_xor31 ?_ ?_ | refine bnd_shr ?_ | refine bnd_shl ?_ ?_ | refine bnd_mod ?_ | refine bnd_andl ?_ | fail))) | fail) | refine DrawN.mk' [] ?_ | fail))); all_goals (conv => whnf)
        (refine ⟨⟨2, by omega, by omega, ?_, .inr ?_, rfl, _, rfl, ?_⟩⟩; rotate_left 2; (first | exact .inl rfl | exact .inr ⟨by simp [belowRE, below, belowL, tr, encB_below, fms_below, Fm.sc_below, encS_below, encT_below, bx_below, Fm.cb], by simp [belowH, Blk.below, belowL, below, encB_below, fms_below, Fm.sc_below, encS_below, encT_below, bx_below, Fm.cb]⟩ | fail); all_goals (repeat' (first | exact trivial | refine ⟨⟨_, rfl, ?_⟩, ?_⟩ | fail)); all_goals try (first | exact Wk.refl _ | exact Wk.of_eq (congrArg (AV.int _) (by omega)) | fail))
    · (repeat' ((conv => whnf); (first | (refine IfN.id ?_; first | refine IfN.not ?_ | refine IfN.tt rfl ?_ | refine IfN.dT (by omega) ?_ | fail) | (refine SideN.mk ?_ ?_; · first | kernel_rfl | omega | exact List.cons_ne_nil _ _ | (simp; done) | (simp; omega) | exact trivial | assumption | fail) | (refine CallD.id ?_; first | refine CallD.det _ (fun _ hq X => letters_c _) ?_ | refine CallD.det _ (fun _ hq X => tl2 _) ?_ | fail) | refine SegN.mk _ (seg_rfl rfl) ?_ | refine DrawN.mk' [] ?_ | fail))); all_goals (conv => whnf)
      refine loop_R Tryd.E0 Tryd.mx (σ := Nat × Nat) (fun p => p.1 ≤ T ∧ p.2 = cntS p.1 F2) (fun p => T - p.1) (fun p => [(133, .v (.int .i64 p.1))]) (fun p => [.box 28 f.cells, .box 28 g.cells, .box 49 (bx N 2 p.2), .box 28 (Fm.f2 5 f g).cells]) _ (0, 0) rfl hcl [7, 13, 19, 20, 111, 112, 113, 131, 132] rfl ⟨Nat.zero_le _, (cntS_nil _).symm⟩ ⟨⟨_, rfl, Wk.refl _⟩, trivial⟩ rfl (fun _ _ => rfl) ?_
      rintro ⟨j, c⟩ ⟨hj, hc⟩
      simp only at hj hc
      have hsj := cntS_succ F2 j
      have hlj := cntS_le j F2
      rw [← hc] at hsj hlj
      by_cases hlt : j < T
      · cases hFj : F2 j with
        | true =>
          rw [hFj] at hsj
          simp only [Bool.toNat_true] at hsj
          (repeat' ((conv => whnf); (first | (refine IfN.id ?_; first | refine IfN.tt rfl ?_ | refine IfN.dT (by omega) ?_ | fail) | (refine EqN.id ?_; first | (refine EqN.addN _ _ (by first | with_reducible rfl | with_reducible exact cst1 | with_reducible exact cst0 | with_reducible exact cst2 | with_reducible exact cst3 | with_reducible exact cst4 | with_reducible exact cst5 | with_reducible exact cst6 | with_reducible exact cst7 | with_reducible exact cst8 | with_reducible exact cst14 | with_reducible exact cst15 | with_reducible exact cst25 | with_reducible exact cst30 | with_reducible exact cst31 | fail) (by first | with_reducible rfl | with_reducible exact cst1 | with_reducible exact cst0 | with_reducible exact cst2 | with_reducible exact cst3 | with_reducible exact cst4 | with_reducible exact cst5 | with_reducible exact cst6 | with_reducible exact cst7 | with_reducible exact cst8 | with_reducible exact cst14 | with_reducible exact cst15 | with_reducible exact cst25 | with_reducible exact cst30 | with_reducible exact cst31 | fail) ?_ ?_; · (repeat' (first | omega | refine And.intro ?_ ?_ | exact bnd_andl (by omega) | exact bnd_andr (by omega) | refine bnd_or ?_ ?_ | refine bnd_or31 ?_ ?_ | refine bnd_xor ?_ ?_ | refine bnd_xor31 ?_ ?_ | refine bnd_shr ?_ | refine bnd_shl ?_ ?_ | refine bnd_mod ?_ | refine bnd_andl ?_ | fail))) | fail) | (refine SideN.mk ?_ ?_; · first | kernel_rfl | omega | exact List.cons_ne_nil _ _ | (simp; done) | (simp; omega) | exact trivial | assumption | fail) | refine SegN.rngB j rfl hlt hFj ?_ | refine OfsN.at_ (by omega) ?_ | refine DrawN.mk' [] ?_ | fail))); all_goals (conv => whnf)
          (refine ⟨⟨(j + 1, c + 1), ⟨by simp only; omega, by simp only; omega⟩, by omega, ?_, .inl ⟨rfl, rfl⟩, rfl, _, rfl, ?_⟩⟩; rotate_left 1; (first | exact .inl rfl | exact .inr ⟨by simp [belowRE, below, belowL, tr, encB_below, fms_below, Fm.sc_below, encS_below, encT_below, bx_below, Fm.cb], by simp [belowH, Blk.below, belowL, below, encB_below, fms_below, Fm.sc_below, encS_below, encT_below, bx_below, Fm.cb]⟩ | fail); (repeat' (first | exact trivial | refine ⟨⟨_, rfl, ?_⟩, ?_⟩ | fail)); all_goals try (first | exact Wk.refl _ | exact Wk.of_eq (congrArg (AV.int _) (by omega)) | fail))
        | false =>
          rw [hFj] at hsj
          simp only [Bool.toNat_false, Nat.add_zero] at hsj
          (repeat' ((conv => whnf); (first | (refine IfN.id ?_; first | refine IfN.ff rfl ?_ | refine IfN.dT (by omega) ?_ | fail) | (refine EqN.id ?_; first | (refine EqN.addN _ _ (by first | with_reducible rfl | with_reducible exact cst1 | with_reducible exact cst0 | with_reducible exact cst2 | with_reducible exact cst3 | with_reducible exact cst4 | with_reducible exact cst5 | with_reducible exact cst6 | with_reducible exact cst7 | with_reducible exact cst8 | with_reducible exact cst14 | with_reducible exact cst15 | with_reducible exact cst25 | with_reducible exact cst30 | with_reducible exact cst31 | fail) (by first | with_reducible rfl | with_reducible exact cst1 | with_reducible exact cst0 | with_reducible exact cst2 | with_reducible exact cst3 | with_reducible exact cst4 | with_reducible exact cst5 | with_reducible exact cst6 | with_reducible exact cst7 | with_reducible exact cst8 | with_reducible exact cst14 | with_reducible exact cst15 | with_reducible exact cst25 | with_reducible exact cst30 | with_reducible exact cst31 | fail) ?_ ?_; · (repeat' (first | omega | refine And.intro ?_ ?_ | exact bnd_andl (by omega) | exact bnd_andr (by omega) | refine bnd_or ?_ ?_ | refine bnd_or31 ?_ ?_ | refine bnd_xor ?_ ?_ | refine bnd_xor31 ?_ ?_ | refine bnd_shr ?_ | refine bnd_shl ?_ ?_ | refine bnd_mod ?_ | refine bnd_andl ?_ | fail))) | fail) | (refine SideN.mk ?_ ?_; · first | kernel_rfl | omega | exact List.cons_ne_nil _ _ | (simp; done) | (simp; omega) | exact trivial | assumption | fail) | refine SegN.rngB j rfl hlt hFj ?_ | refine DrawN.mk' [] ?_ | fail))); all_goals (conv => whnf)
          (refine ⟨⟨(j + 1, c), ⟨by simp only; omega, by simp only; omega⟩, by omega, ?_, .inl ⟨rfl, rfl⟩, rfl, _, rfl, ?_⟩⟩; rotate_left 1; (first | exact .inl rfl | exact .inr ⟨by simp [belowRE, below, belowL, tr, encB_below, fms_below, Fm.sc_below, encS_below, encT_below, bx_below, Fm.cb], by simp [belowH, Blk.below, belowL, below, encB_below, fms_below, Fm.sc_below, encS_below, encT_below, bx_below, Fm.cb]⟩ | fail); (repeat' (first | exact trivial | refine ⟨⟨_, rfl, ?_⟩, ?_⟩ | fail)); all_goals try (first | exact Wk.refl _ | exact Wk.of_eq (congrArg (AV.int _) (by omega)) | fail))
      · have hjT : j = T := by omega
        subst hjT
        rw [← n2] at hc
        subst hc
        (repeat' ((conv => whnf); (first | (refine IfN.id ?_; first | refine IfN.dF (by omega) ?_ | fail) | (refine EqN.id ?_; first | (refine EqN.addN _ _ (by first | with_reducible rfl | with_reducible exact cst1 | with_reducible exact cst0 | with_reducible exact cst2 | with_reducible exact cst3 | with_reducible exact cst4 | with_reducible exact cst5 | with_reducible exact cst6 | with_reducible exact cst7 | with_reducible exact cst8 | with_reducible exact cst14 | with_reducible exact cst15 | with_reducible exact cst25 | with_reducible exact cst30 | with_reducible exact cst31 | fail) (by first | with_reducible rfl | with_reducible exact cst1 | with_reducible exact cst0 | with_reducible exact cst2 | with_reducible exact cst3 | with_reducible exact cst4 | with_reducible exact cst5 | with_reducible exact cst6 | with_reducible exact cst7 | with_reducible exact cst8 | with_reducible exact cst14 | with_reducible exact cst15 | with_reducible exact cst25 | with_reducible exact cst30 | with_reducible exact cst31 | fail) ?_ ?_; · (repeat' (first | omega | refine And.intro ?_ ?_ | exact bnd_andl (by omega) | exact bnd_andr (by omega) | refine bnd_or ?_ ?_ | refine bnd_or31 ?_ ?_ | refine bnd_xor ?_ ?_ | refine bnd_xor31 ?_ ?_ | refine bnd_shr ?_ | refine bnd_shl ?_ ?_ | refine bnd_mod ?_ | refine bnd_andl ?_ | fail))) | fail) | refine DrawN.mk' [] ?_ | fail))); all_goals (conv => whnf)
        (refine ⟨⟨3, by omega, by omega, ?_, .inr ?_, rfl, _, rfl, ?_⟩⟩; rotate_left 2; (first | exact .inl rfl | exact .inr ⟨by simp [belowRE, below, belowL, tr, encB_below, fms_below, Fm.sc_below, encS_below, encT_below, bx_below, Fm.cb], by simp [belowH, Blk.below, belowL, below, encB_below, fms_below, Fm.sc_below, encS_below, encT_below, bx_below, Fm.cb]⟩ | fail); all_goals (repeat' (first | exact trivial | refine ⟨⟨_, rfl, ?_⟩, ?_⟩ | fail)); all_goals try (first | exact Wk.refl _ | exact Wk.of_eq (congrArg (AV.int _) (by omega)) | fail))
    · (repeat' ((conv => whnf); (first | (refine IfN.id ?_; first | refine IfN.not ?_ | refine IfN.tt rfl ?_ | refine IfN.dT (by omega) ?_ | fail) | (refine SideN.mk ?_ ?_; · first | kernel_rfl | omega | exact List.cons_ne_nil _ _ | (simp; done) | (simp; omega) | exact trivial | assumption | fail) | (refine CallD.id ?_; first | refine CallD.det _ (fun _ hq X => letters_c _) ?_ | refine CallD.det _ (fun _ hq X => tl3 _) ?_ | fail) | refine SegN.mk _ (seg_rfl rfl) ?_ | refine DrawN.mk' [] ?_ | fail))); all_goals (conv => whnf)
      refine loop_R Tryd.E0 Tryd.mx (σ := Nat × Nat) (fun p => p.1 ≤ T ∧ p.2 = cntS p.1 F3) (fun p => T - p.1) (fun p => [(133, .v (.int .i64 p.1))]) (fun p => [.box 28 f.cells, .box 28 g.cells, .box 49 (bx N 3 p.2), .box 28 (Fm.f2 4 f g).cells]) _ (0, 0) rfl hcl [7, 13, 19, 20, 111, 112, 113, 131, 132] rfl ⟨Nat.zero_le _, (cntS_nil _).symm⟩ ⟨⟨_, rfl, Wk.refl _⟩, trivial⟩ rfl (fun _ _ => rfl) ?_
      rintro ⟨j, c⟩ ⟨hj, hc⟩
      simp only at hj hc
      have hsj := cntS_succ F3 j
      have hlj := cntS_le j F3
      rw [← hc] at hsj hlj
      by_cases hlt : j < T
      · cases hFj : F3 j with
        | true =>
          rw [hFj] at hsj
          simp only [Bool.toNat_true] at hsj
          (repeat' ((conv => whnf); (first | (refine IfN.id ?_; first | refine IfN.tt rfl ?_ | refine IfN.dT (by omega) ?_ | fail) | (refine EqN.id ?_; first | (refine EqN.addN _ _ (by first | with_reducible rfl | with_reducible exact cst1 | with_reducible exact cst0 | with_reducible exact cst2 | with_reducible exact cst3 | with_reducible exact cst4 | with_reducible exact cst5 | with_reducible exact cst6 | with_reducible exact cst7 | with_reducible exact cst8 | with_reducible exact cst14 | with_reducible exact cst15 | with_reducible exact cst25 | with_reducible exact cst30 | with_reducible exact cst31 | fail) (by first | with_reducible rfl | with_reducible exact cst1 | with_reducible exact cst0 | with_reducible exact cst2 | with_reducible exact cst3 | with_reducible exact cst4 | with_reducible exact cst5 | with_reducible exact cst6 | with_reducible exact cst7 | with_reducible exact cst8 | with_reducible exact cst14 | with_reducible exact cst15 | with_reducible exact cst25 | with_reducible exact cst30 | with_reducible exact cst31 | fail) ?_ ?_; · (repeat' (first | omega | refine And.intro ?_ ?_ | exact bnd_andl (by omega) | exact bnd_andr (by omega) | refine bnd_or ?_ ?_ | refine bnd_or31 ?_ ?_ | refine bnd_xor ?_ ?_ | refine bnd_xor31 ?_ ?_ | refine bnd_shr ?_ | refine bnd_shl ?_ ?_ | refine bnd_mod ?_ | refine bnd_andl ?_ | fail))) | fail) | (refine SideN.mk ?_ ?_; · first | kernel_rfl | omega | exact List.cons_ne_nil _ _ | (simp; done) | (simp; omega) | exact trivial | assumption | fail) | refine SegN.rngB j rfl hlt hFj ?_ | refine OfsN.at_ (by omega) ?_ | refine DrawN.mk' [] ?_ | fail))); all_goals (conv => whnf)
          (refine ⟨⟨(j + 1, c + 1), ⟨by simp only; omega, by simp only; omega⟩, by omega, ?_, .inl ⟨rfl, rfl⟩, rfl, _, rfl, ?_⟩⟩; rotate_left 1; (first | exact .inl rfl | exact .inr ⟨by simp [belowRE, below, belowL, tr, encB_below, fms_below, Fm.sc_below, encS_below, encT_below, bx_below, Fm.cb], by simp [belowH, Blk.below, belowL, below, encB_below, fms_below, Fm.sc_below, encS_below, encT_below, bx_below, Fm.cb]⟩ | fail); (repeat' (first | exact trivial | refine ⟨⟨_, rfl, ?_⟩, ?_⟩ | fail)); all_goals try (first | exact Wk.refl _ | exact Wk.of_eq (congrArg (AV.int _) (by omega)) | fail))
        | false =>
          rw [hFj] at hsj
          simp only [Bool.toNat_false, Nat.add_zero] at hsj
          (repeat' ((conv => whnf); (first | (refine IfN.id ?_; first | refine IfN.ff rfl ?_ | refine IfN.dT (by omega) ?_ | fail) | (refine EqN.id ?_; first | (refine EqN.addN _ _ (by first | with_reducible rfl | with_reducible exact cst1 | with_reducible exact cst0 | with_reducible exact cst2 | with_reducible exact cst3 | with_reducible exact cst4 | with_reducible exact cst5 | with_reducible exact cst6 | with_reducible exact cst7 | with_reducible exact cst8 | with_reducible exact cst14 | with_reducible exact cst15 | with_reducible exact cst25 | with_reducible exact cst30 | with_reducible exact cst31 | fail) (by first | with_reducible rfl | with_reducible exact cst1 | with_reducible exact cst0 | with_reducible exact cst2 | with_reducible exact cst3 | with_reducible exact cst4 | with_reducible exact cst5 | with_reducible exact cst6 | with_reducible exact cst7 | with_reducible exact cst8 | with_reducible exact cst14 | with_reducible exact cst15 | with_reducible exact cst25 | with_reducible exact cst30 | with_reducible exact cst31 | fail) ?_ ?_; · (repeat' (first | omega | refine And.intro ?_ ?_ | exact bnd_andl (by omega) | exact bnd_andr (by omega) | refine bnd_or ?_ ?_ | refine bnd_or31 ?_ ?_ | refine bnd_xor ?_ ?_ | refine bnd_xor31 ?_ ?_ | refine bnd_shr ?_ | refine bnd_shl ?_ ?_ | refine bnd_mod ?_ | refine bnd_andl ?_ | fail))) | fail) | (refine SideN.mk ?_ ?_; · first | kernel_rfl | omega | exact List.cons_ne_nil _ _ | (simp; done) | (simp; omega) | exact trivial | assumption | fail) | refine SegN.rngB j rfl hlt hFj ?_ | refine DrawN.mk' [] ?_ | fail))); all_goals (conv => whnf)
          (refine ⟨⟨(j + 1, c), ⟨by simp only; omega, by simp only; omega⟩, by omega, ?_, .inl ⟨rfl, rfl⟩, rfl, _, rfl, ?_⟩⟩; rotate_left 1; (first | exact .inl rfl | exact .inr ⟨by simp [belowRE, below, belowL, tr, encB_below, fms_below, Fm.sc_below, encS_below, encT_below, bx_below, Fm.cb], by simp [belowH, Blk.below, belowL, below, encB_below, fms_below, Fm.sc_below, encS_below, encT_below, bx_below, Fm.cb]⟩ | fail); (repeat' (first | exact trivial | refine ⟨⟨_, rfl, ?_⟩, ?_⟩ | fail)); all_goals try (first | exact Wk.refl _ | exact Wk.of_eq (congrArg (AV.int _) (by omega)) | fail))
      · have hjT : j = T := by omega
        subst hjT
        rw [← n3] at hc
        subst hc
        (repeat' ((conv => whnf); (first | (refine IfN.id ?_; first | refine IfN.dF (by omega) ?_ | fail) | (refine EqN.id ?_; first | (refine EqN.addN _ _ (by first | with_reducible rfl | with_reducible exact cst1 | with_reducible exact cst0 | with_reducible exact cst2 | with_reducible exact cst3 | with_reducible exact cst4 | with_reducible exact cst5 | with_reducible exact cst6 | with_reducible exact cst7 | with_reducible exact cst8 | with_reducible exact cst14 | with_reducible exact cst15 | with_reducible exact cst25 | with_reducible exact cst30 | with_reducible exact cst31 | fail) (by first | with_reducible rfl | with_reducible exact cst1 | with_reducible exact cst0 | with_reducible exact cst2 | with_reducible exact cst3 | with_reducible exact cst4 | with_reducible exact cst5 | with_reducible exact cst6 | with_reducible exact cst7 | with_reducible exact cst8 | with_reducible exact cst14 | with_reducible exact cst15 | with_reducible exact cst25 | with_reducible exact cst30 | with_reducible exact cst31 | fail) ?_ ?_; · (repeat' (first | omega | refine And.intro ?_ ?_ | exact bnd_andl (by omega) | exact bnd_andr (by omega) | refine bnd_or ?_ ?_ | refine bnd_or31 ?_ ?_ | refine bnd_xor ?_ ?_ | refine bnd_xor31 ?_ ?_ | refine bnd_shr ?_ | refine bnd_shl ?_ ?_ | refine bnd_mod ?_ | refine bnd_andl ?_ | fail))) | fail) | refine DrawN.mk' [] ?_ | fail))); all_goals (conv => whnf)
        (refine ⟨⟨4, by omega, by omega, ?_, .inr ?_, rfl, _, rfl, ?_⟩⟩; rotate_left 2; (first | exact .inl rfl | exact .inr ⟨by simp [belowRE, below, belowL, tr, encB_below, fms_below, Fm.sc_below, encS_below, encT_below, bx_below, Fm.cb], by simp [belowH, Blk.below, belowL, below, encB_below, fms_below, Fm.sc_below, encS_below, encT_below, bx_below, Fm.cb]⟩ | fail); all_goals (repeat' (first | exact trivial | refine ⟨⟨_, rfl, ?_⟩, ?_⟩ | fail)); all_goals try (first | exact Wk.refl _ | exact Wk.of_eq (congrArg (AV.int _) (by omega)) | fail))
    · (repeat' ((conv => whnf); (first | (refine IfN.id ?_; first | refine IfN.ff rfl ?_ | refine IfN.dT (by omega) ?_ | fail) | (refine EqN.id ?_; first | refine EqN.mk _ w3 ?_ | refine EqN.mk _ w2 ?_ | (refine EqN.addN _ _ (by first | with_reducible rfl | with_reducible exact cst1 | with_reducible exact cst0 | with_reducible exact cst2 | with_reducible exact cst3 | with_reducible exact cst4 | with_reducible exact cst5 | with_reducible exact cst6 | with_reducible exact cst7 | with_reducible exact cst8 | with_reducible exact cst14 | with_reducible exact cst15 | with_reducible exact cst25 | with_reducible exact cst30 | with_reducible exact cst31 | fail) (by first | with_reducible rfl | with_reducible exact cst1 | with_reducible exact cst0 | with_reducible exact cst2 | with_reducible exact cst3 | with_reducible exact cst4 | with_reducible exact cst5 | with_reducible exact cst6 | with_reducible exact cst7 | with_reducible exact cst8 | with_reducible exact cst14 | with_reducible exact cst15 | with_reducible exact cst25 | with_reducible exact cst30 | with_reducible exact cst31 | fail) ?_ ?_; · (repeat' (first | omega | refine And.intro ?_ ?_ | exact bnd_andl (by omega) | exact bnd_andr (by omega) | refine bnd_or ?_ ?_ | refine bnd_or31 ?_ ?_ | refine bnd_xor ?_ ?_ | refine bnd_xor31 ?_ ?_ | refine bnd_shr ?_ | refine bnd_shl ?_ ?_ | refine bnd_mod ?_ | refine bnd_andl ?_ | fail))) | (refine EqN.subN _ _ (by first | with_reducible rfl | with_reducible exact cst1 | with_reducible exact cst0 | with_reducible exact cst2 | with_reducible exact cst3 | with_reducible exact cst4 | with_reducible exact cst5 | with_reducible exact cst6 | with_reducible exact cst7 | with_reducible exact cst8 | with_reducible exact cst14 | with_reducible exact cst15 | with_reducible exact cst25 | with_reducible exact cst30 | with_reducible exact cst31 | fail) (by first | with_reducible rfl | with_reducible exact cst1 | with_reducible exact cst0 | with_reducible exact cst2 | with_reducible exact cst3 | with_reducible exact cst4 | with_reducible exact cst5 | with_reducible exact cst6 | with_reducible exact cst7 | with_reducible exact cst8 | with_reducible exact cst14 | with_reducible exact cst15 | with_reducible exact cst25 | with_reducible exact cst30 | with_reducible exact cst31 | fail) ?_ ?_; · (repeat' (first | omega | refine And.intro ?_ ?_ | exact bnd_andl (by omega) | exact bnd_andr (by omega) | refine bnd_or ?_ ?_ | refine bnd_or31 ?_ ?_ | refine bnd_xor ?_ ?_ | refine bnd_xor31 ?_ ?_ | refine bnd_shr ?_ | refine bnd_shl ?_ ?_ | refine bnd_mod ?_ | refine bnd_andl ?_ | fail))) | fail) | (refine SideN.mk ?_ ?_; · first | kernel_rfl | omega | exact List.cons_ne_nil _ _ | (simp; done) | (simp; omega) | exact trivial | assumption | fail) | refine OfsN.at_ (by omega) ?_ | refine DrawN.mk' [] ?_ | fail))); all_goals (conv => whnf)
      all_goals exact EndN.det trivial (Wk.of_eq (by simp; try omega))
end Go.Proofs.YtekhodpmpjehaaaDoor
/-! text SA10 -/
namespace Go.Proofs.YtekhodpmpjehaaaDoor
open Go.Vsi

/-! ### longer names, in plain words -/
theorem lets_idx {c : UInt8} (h : c ∈ lets) : ∃ k, k < 12 ∧ c = lets.getD k 0 ∧ (hdB c).toNat = 65 + k ∧ ixN lets c = k := by
  obtain ⟨k, hk, rfl⟩ := mem_getD lets c h
  have hk : k < 12 := hk
  have e : ∀ k, k < 12 → (hdB (lets.getD k 0)).toNat = 65 + k ∧ ixN lets (lets.getD k 0) = k := by decide
  exact ⟨k, hk, rfl, (e k hk).1, (e k hk).2⟩
theorem nm_z9 {c : UInt8} (h : c ∈ lets) : nm c ++ ⟨#[122, 57]⟩ = nm (c + 1) := by
  have e : lets.all (fun c => decide (nm c ++ ⟨#[122, 57]⟩ = nm (c + 1))) = true := by kernel_rfl
  exact of_decide_eq_true (List.all_eq_true.1 e c h)
theorem nm_get0 (c : UInt8) : (nm c)[(0 : Int).toNat]? = some (hdB c) := by
  unfold nm nmL
  split <;> rfl
theorem lets_even {c : UInt8} (h : c ∈ lets) : c.toNat % 2 = 0 ∧ (c + 1).toNat = c.toNat + 1 ∧ 130 ≤ c.toNat ∧ c.toNat ≤ 152 := by
  have e : ∀ c ∈ lets, c.toNat % 2 = 0 ∧ (c + 1).toNat = c.toNat + 1 ∧ 130 ≤ c.toNat ∧ c.toNat ≤ 152 := by decide
  exact e c h
theorem succ_inj {c d : UInt8} (h : c + 1 = d + 1) : c = d := by
  have := congrArg (fun x : UInt8 => x - 1) h
  simpa using this
/-- the atoms of a set get longer names -/
def rnF (p : UInt8 → Bool) : Fm → Fm
  | .at c => if p c then .at (c + 1) else .at c
  | .fa => .fa
  | .f1 k a => .f1 k (rnF p a)
  | .f2 k a b => .f2 k (rnF p a) (rnF p b)
theorem rn_none : ∀ f : Fm, rnF (fun _ => false) f = f
  | .at c => rfl
  | .fa => rfl
  | .f1 k a => by simp only [rnF, rn_none a]
  | .f2 k a b => by simp only [rnF, rn_none a, rn_none b]
theorem rn_put (p : UInt8 → Bool) {c : UInt8} (hc : c ∈ lets) : ∀ f : Fm, f.In lets → putF c (.at (c + 1)) (rnF p f) = rnF (fun d => p d || d == c) f
  | .at d, h => by
    have hd : d ∈ lets := h
    simp only [rnF]
    by_cases hp : p d = true
    · simp only [hp, if_true, Bool.true_or, putF]
      rw [if_neg]
      intro e
      have h1 := lets_even hd
      have h2 := lets_even hc
      rw [← e] at h2
      omega
    · simp only [hp, if_false, Bool.false_or, putF]
      by_cases e : d = c
      · subst e; simp [putF]
      · simp [e, putF]
  | .fa, _ => rfl
  | .f1 k a, h => by simp only [rnF, putF, rn_put p hc a h]
  | .f2 k a b, h => by simp only [rnF, putF, rn_put p hc a h.1, rn_put p hc b h.2]
theorem rn_congr {p q : UInt8 → Bool} : ∀ f : Fm, (∀ c, f.has c → p c = q c) → rnF p f = rnF q f
  | .at c, h => by simp only [rnF, h c rfl]
  | .fa, _ => rfl
  | .f1 k a, h => by simp only [rnF, rn_congr a h]
  | .f2 k a b, h => by simp only [rnF, rn_congr a fun c hc => h c (.inl hc), rn_congr b fun c hc => h c (.inr hc)]
theorem rn_pr (p : UInt8 → Bool) : ∀ f : Fm, f.Pr → (rnF p f).Pr
  | .at c, _ => by simp only [rnF]; split <;> exact trivial
  | .fa, _ => trivial
  | .f1 k a, h => ⟨h.1, rn_pr p a h.2⟩
  | .f2 k a b, h => ⟨h.1, rn_pr p a h.2.1, rn_pr p b h.2.2⟩
theorem rn_ok (p : UInt8 → Bool) : ∀ f : Fm, f.Ok → f.In lets → (rnF p f).Ok
  | .at c, h, hi => by
    have := lets_even hi
    simp only [rnF]
    split
    · exact (⟨by omega, by omega⟩ : cap (c + 1))
    · exact h
  | .fa, _, _ => trivial
  | .f1 k a, h, hi => ⟨h.1, rn_ok p a h.2 hi⟩
  | .f2 k a b, h, hi => ⟨h.1, rn_ok p a h.2.1 hi.1, rn_ok p b h.2.2 hi.2⟩
theorem rn_size (p : UInt8 → Bool) : ∀ f : Fm, (rnF p f).nodes = f.nodes ∧ (rnF p f).depth = f.depth
  | .at c => by simp only [rnF]; split <;> exact ⟨rfl, rfl⟩
  | .fa => ⟨rfl, rfl⟩
  | .f1 k a => by simp only [rnF, Fm.nodes, Fm.depth, rn_size p a, and_self]
  | .f2 k a b => by simp only [rnF, Fm.nodes, Fm.depth, rn_size p a, rn_size p b, and_self]
theorem rn_ev {p : UInt8 → Bool} (r s : UInt8 → Bool) : ∀ f : Fm, (∀ c, f.has c → p c = true ∧ s (c + 1) = r c) → (rnF p f).ev s = f.ev r
  | .at c, h => by simp only [rnF, (h c rfl).1, if_true, Fm.ev, (h c rfl).2]
  | .fa, _ => rfl
  | .f1 k a, h => congrArg (fun b => !b) (rn_ev r s a h)
  | .f2 k a b, h => by simp only [rnF, Fm.ev, rn_ev r s a fun c hc => h c (.inl hc), rn_ev r s b fun c hc => h c (.inr hc)]
theorem rn_in {p : UInt8 → Bool} {l : List UInt8} : ∀ f : Fm, (∀ c, f.has c → p c = true ∧ c ∈ l) → (rnF p f).In (l.map (· + 1))
  | .at c, h => by
    simp only [rnF, (h c rfl).1, if_true]
    exact List.mem_map.2 ⟨c, (h c rfl).2, rfl⟩
  | .fa, _ => trivial
  | .f1 k a, h => rn_in a h
  | .f2 k a b, h => ⟨rn_in a fun c hc => h c (.inl hc), rn_in b fun c hc => h c (.inr hc)⟩
theorem ix_long (l : List UInt8) (c : UInt8) : ixN (l.map (· + 1)) (c + 1) = ixN l c := by
  unfold ixN
  induction l with
  | nil => rfl
  | cons a l ih =>
    have h1 : (a + 1 == c + 1) = (a == c) := by
      apply Bool.eq_iff_iff.2
      rw [beq_iff_eq, beq_iff_eq]
      exact ⟨succ_inj, fun h => by rw [h]⟩
    rw [List.map_cons, List.idxOf_cons, List.idxOf_cons, ih, h1]
theorem vb_long (l : List UInt8) (v : Nat) (c : UInt8) : vb (l.map (· + 1)) v (c + 1) = vb l v c := by
  unfold vb
  rw [ix_long, List.length_map]
theorem long_ok {l : List UInt8} (h : l.Sublist lets) : NmOk (l.map (· + 1)) := by
  refine nmok_of ?_ fun c hc => ?_
  · rw [List.pairwise_map]
    refine List.Pairwise.imp_of_mem (fun {a b} ha hb hab => ?_) (lets_lt.sublist h)
    have h1 := lets_even (h.subset ha)
    have h2 := lets_even (h.subset hb)
    rw [UInt8.lt_iff_toNat_lt] at hab ⊢
    omega
  · obtain ⟨d, hd, rfl⟩ := List.mem_map.1 hc
    have := lets_even (h.subset hd)
    exact ⟨by omega, by omega⟩
/-- the valuation of all letters, read off at the names of a list -/
def atN (ns : List UInt8) (all : Nat) : Nat → Nat
  | 0 => 0
  | j + 1 => 2 * atN ns all j + (vb lets all (ns.getD j 0)).toNat
theorem atN_succ (ns : List UInt8) (all j : Nat) : atN ns all (j + 1) = 2 * atN ns all j + (vb lets all (ns.getD j 0)).toNat := rfl
theorem atN_zero (ns : List UInt8) (all : Nat) : atN ns all 0 = 0 := rfl
theorem atN_lt (ns : List UInt8) (all : Nat) : ∀ j, atN ns all j < 2 ^ j
  | 0 => by simp [atN]
  | j + 1 => by
    have := atN_lt ns all j
    have := Bool.toNat_le (vb lets all (ns.getD j 0))
    simp only [atN, Nat.pow_succ]
    omega
theorem atN_bit (ns : List UInt8) (all : Nat) : ∀ j i, i < j → (atN ns all j).testBit (j - 1 - i) = vb lets all (ns.getD i 0)
  | j + 1, i, h => by
    have hb : atN ns all (j + 1) = 2 * atN ns all j + (vb lets all (ns.getD j 0)).toNat := rfl
    by_cases e : i = j
    · subst e
      rw [show i + 1 - 1 - i = 0 by omega, hb, Nat.testBit_zero]
      cases vb lets all (ns.getD i 0) <;> simp <;> omega
    · rw [show j + 1 - 1 - i = (j - 1 - i) + 1 by omega, Nat.testBit_succ, hb]
      have : (2 * atN ns all j + (vb lets all (ns.getD j 0)).toNat) / 2 = atN ns all j := by
        have := Bool.toNat_le (vb lets all (ns.getD j 0))
        omega
      rw [this]
      exact atN_bit ns all j i (by omega)
theorem vb_atN {ns : List UInt8} (all : Nat) {c : UInt8} (h : c ∈ ns) : vb ns (atN ns all ns.length) c = vb lets all c := by
  have hi : ixN ns c < ns.length := List.idxOf_lt_length_of_mem h
  unfold vb
  have := atN_bit ns all ns.length (ixN ns c) hi
  rw [this]
  unfold vb
  congr 2
  have : ns.getD (ixN ns c) 0 = c := by
    unfold ixN at hi ⊢
    rw [List.getD_eq_getElem?_getD, List.getElem?_eq_getElem hi]
    simp
  rw [this]
theorem bit_and (t k : Nat) : (t >>> k) &&& 1 = (t.testBit k).toNat := by
  rw [Nat.toNat_testBit, Nat.shiftRight_eq_div_pow, Nat.and_one_is_mod]
theorem two_or (a : Nat) (b : Bool) : 2 * a ||| b.toNat = 2 * a + b.toNat := by
  have := Nat.two_pow_add_eq_or_of_lt (i := 1) (b := b.toNat) (by cases b <;> decide) a
  simpa using this.symm
end Go.Proofs.YtekhodpmpjehaaaDoor
/-! text SB10 -/
namespace Go.Proofs.YtekhodpmpjehaaaDoor
open Go.Vsi
set_option maxHeartbeats 4000000
attribute [local irreducible] VW VCall VO bits atN

/-! ### the law TruthNames -/
theorem take_snocS (l : List UInt8) (j : Nat) (h : j < l.length) : ((l.take (j + 1)).map (· + 1)).flatMap encS = ((l.take j).map (· + 1)).flatMap encS ++ [.str (nm (l.getD j 0 + 1))] := by
  rw [take_snoc l j h, List.map_append, List.flatMap_append]
  rfl
theorem long_len (l : List UInt8) (j : Nat) (h : j ≤ l.length) : (((l.take j).map (· + 1)).flatMap encS).length = j * 1 := by
  rw [flat_length (sz := 1) (fun _ => rfl)]
  simp [Nat.min_eq_left h]
theorem names_c (l : List Nat) (hl : l.length ≤ 9223372036854775807) (hb : ∀ i, i < l.length → l.getD i 0 ≤ 255) (v : Nat) (hv : v ≤ 65535) (H : Heap) :
    VDet Tryd.prog 7 [.sl none l.length (l.flatMap encB), .int .u16 v] H (.bool true) := by
  have b1 := built_c l hl hb
  have z1 := blt30 l
  generalize bltF l = f at *
  generalize l.flatMap encB = lb at *
  have mf := z1.mid
  have hsub := names_sub [f] (by simp [z1.nice.inl])
  have h12 := names_12 [f] (by simp [z1.nice.inl])
  have hok := namesL_ok [f] fun x hx => by simp only [List.mem_singleton] at hx; exact hx ▸ z1.nice.ok
  have hmem : ∀ c, f.has c → c ∈ namesL [f] := fun c hc => (mem_namesL c [f]).2 ⟨f, List.mem_singleton_self _, hc⟩
  have at1 : ∀ H, VDet Tryd.prog 18 [.sx 1 f.cells] H (.sl none (namesL [f]).length ((namesL [f]).flatMap encS)) := fun H => VDet.wk (atoms_c [f] (by simp [z1.nice.pr]) (by have := nodesL_mid [f] (by simp [mf]); simp only [List.length_singleton] at this; omega) (by simp) H) ⟨wk_row (by simp), trivial⟩
  obtain ⟨t, ht, ht4⟩ : ∃ t, v % 4096 = t ∧ t < 4096 := ⟨_, rfl, Nat.mod_lt _ (by decide)⟩
  have v1 := value_c f mf.good z1.nice.inl t ht4
  have v2 := eval_c f mf.good (namesL [f]) hok h12 (names_in (by simp)) (atN (namesL [f]) t (namesL [f]).length) (atN_lt _ _ _)
  have e2 : f.ev (vb (namesL [f]) (atN (namesL [f]) t (namesL [f]).length)) = f.ev (vb lets t) := ev_has f fun c hc => vb_atN t (hmem c hc)
  have rgood : (rnF (fun d => decide (d ∈ namesL [f])) f).Good := ⟨rn_ok _ f z1.nice.ok z1.nice.inl, by have := rn_size (fun d => decide (d ∈ namesL [f])) f; exact ⟨by have := mf.nodes; omega, by have := mf.depth; omega⟩, rn_pr _ f z1.nice.pr⟩
  have v3 := eval_c (rnF (fun d => decide (d ∈ namesL [f])) f) rgood ((namesL [f]).map (· + 1)) (long_ok hsub) (by rw [List.length_map]; exact h12) (rn_in f fun c hc => ⟨decide_eq_true (hmem c hc), hmem c hc⟩) (atN (namesL [f]) t (namesL [f]).length) (by rw [List.length_map]; exact atN_lt _ _ _)
  have e3 : (rnF (fun d => decide (d ∈ namesL [f])) f).ev (vb ((namesL [f]).map (· + 1)) (atN (namesL [f]) t (namesL [f]).length)) = f.ev (vb lets t) := by
    rw [← e2]
    exact rn_ev _ _ f fun c hc => ⟨decide_eq_true (hmem c hc), vb_long _ _ c⟩
  rw [e2] at v2
  rw [e3, List.length_map] at v3
  have hpr := fun p => rn_pr p f z1.nice.pr
  have hput : ∀ j, j < (namesL [f]).length → ∀ H, VDet Tryd.prog 13 [.agg (rnF (fun d => decide (d ∈ (namesL [f]).drop (j + 1))) f).cells, .str (nm ((namesL [f]).getD j 0)), .agg (Fm.at ((namesL [f]).getD j 0 + 1)).cells] H (.agg (rnF (fun d => decide (d ∈ (namesL [f]).drop j)) f).cells) := fun j hj H => by
    have hc := hsub.subset (getD_mem (d := (0 : UInt8)) (namesL [f]) j hj)
    have := put_c ((namesL [f]).getD j 0) (.at ((namesL [f]).getD j 0 + 1)) _ (hpr (fun d => decide (d ∈ (namesL [f]).drop (j + 1)))) H
    rw [rn_put _ hc f z1.nice.inl] at this
    rw [show (fun d => decide (d ∈ (namesL [f]).drop j)) = fun d => decide (d ∈ (namesL [f]).drop (j + 1)) || d == (namesL [f]).getD j 0 from funext fun d => by
      rw [List.drop_eq_getElem_cons hj, show (namesL [f])[j] = (namesL [f]).getD j 0 by simp [List.getD_eq_getElem?_getD, hj]]
      simp only [List.mem_cons, Bool.or_comm (decide _)]
      apply Bool.eq_iff_iff.2
      simp]
    exact this
  have hfull : rnF (fun d => decide (d ∈ (namesL [f]).drop (namesL [f]).length)) f = f := by
    rw [List.drop_length]
    have : (fun d : UInt8 => decide (d ∈ ([] : List UInt8))) = fun _ => false := funext fun d => by simp
    rw [this, rn_none]
  have hnone : rnF (fun d => decide (d ∈ (namesL [f]).drop 0)) f = rnF (fun d => decide (d ∈ namesL [f])) f := by rw [List.drop_zero]
  have hatS := atN_succ (namesL [f]) t
  have hat0 := atN_zero (namesL [f]) t
  have hatL := atN_lt (namesL [f]) t
  have hsm : ∀ j, j < (namesL [f]).length → (namesL [f]).getD j 0 ∈ lets := fun j hj => hsub.subset (getD_mem (d := (0 : UInt8)) _ j hj)
  generalize namesL [f] = ns at *
  generalize hG : (fun j => rnF (fun d => decide (d ∈ ns.drop j)) f) = G at *
  have hGj : ∀ j, rnF (fun d => decide (d ∈ ns.drop j)) f = G j := fun j => by rw [← hG]
  simp only [hGj] at hput hfull hnone
  rw [← hnone] at v3
  generalize hA : atN ns t = A at *
  generalize f.ev (vb lets t) = y at *
  clear hpr hG hGj hnone hmem hok e2 e3 rgood
  have h2n : A ns.length < 4096 := Nat.lt_of_lt_of_le (hatL _) (Nat.pow_le_pow_right (n := 2) (by omega) h12)
  have hA12 : ∀ j, j ≤ ns.length → A j < 4096 := fun j hj => Nat.lt_of_lt_of_le (hatL _) (Nat.le_trans (Nat.pow_le_pow_right (n := 2) (by omega) (show j ≤ 12 by omega)) (by decide))
  refine fn_det Tryd.E0 Tryd.mx Tryd.func7 (by kernel_rfl) rfl (Nat.le_of_ble_eq_true rfl) rfl fun hcl hbl => ?_
  (repeat' ((conv => whnf); (first | (refine IfN.id ?_; first | refine IfN.not ?_ | refine IfN.tt rfl ?_ | fail) | (refine EqN.id ?_; first | refine EqN.remC _ rfl rfl ht ?_ | refine EqN.i64 (by omega) ?_ | fail) | (refine SideN.mk ?_ ?_; · first | kernel_rfl | omega | exact List.cons_ne_nil _ _ | (simp; done) | (simp; omega) | exact trivial | assumption | fail) | (refine CallN.id ?_; first | refine CallN.det _ (awake_c _) ?_ | refine CallN.det _ (b1 _) ?_ | refine CallN.det _ (at1 _) ?_ | fail) | refine DrawN.mk' [] ?_ | fail))); all_goals (conv => whnf)
  refine loop_R Tryd.E0 Tryd.mx (σ := Nat) (fun j => j ≤ ns.length) (fun j => ns.length - j) (fun j => [(8, .v (.int .i64 (A j : Nat))), (34, .v (.int .i64 j))]) (fun _ => _) _ 0 rfl hcl [5, 6, 7, 32, 33] rfl (Nat.zero_le _) ⟨⟨_, rfl, Wk.of_eq (by rw [hat0]; rfl)⟩, ⟨_, rfl, Wk.refl _⟩, trivial⟩ rfl (fun _ _ => rfl) ?_
  intro j hj
  clear hbl
  have hAj := hA12 j hj
  by_cases hlt : j < ns.length
  · obtain ⟨k, hk, hc, hd, hix⟩ := lets_idx (hsm j hlt)
    have hS := hatS j
    have hb0 := nm_get0 (ns.getD j 0)
    have hbit : vb lets t (ns.getD j 0) = t.testBit (11 - k) := by
      unfold vb
      rw [hix]
      rfl
    rw [hbit] at hS
    generalize hdB (ns.getD j 0) = d at *
    have hshl : IntKind.i64.wrap ((A j : Nat) * 2 ^ min (1 : Int).toNat IntKind.i64.bits) = ((2 * A j : Nat) : Int) := by
      rw [show min (1 : Int).toNat IntKind.i64.bits = 1 from rfl, IntWalk.i64_in _ (by omega)]
      omega
    have hshr : ((t : Nat) : Int).fdiv (2 ^ min (11 - ((d.toNat : Int) - 65)).toNat IntKind.i64.bits) = ((t >>> (11 - k) : Nat) : Int) := by
      rw [show 11 - ((d.toNat : Int) - 65) = ((11 - k : Nat) : Int) by omega]
      exact fdiv_shr t (11 - k) (by omega)
    have hand : bits .and .i64 ((t >>> (11 - k) : Nat) : Int) 1 = (((t.testBit (11 - k)).toNat : Nat) : Int) := by
      obtain ⟨q, e, h⟩ := EqN.and (k := fun q => q = (((t.testBit (11 - k)).toNat : Nat) : Int)) (t >>> (11 - k)) 1 rfl rfl ⟨Nat.lt_of_le_of_lt (Nat.shiftRight_le _ _) (by omega), by omega⟩ (by rw [bit_and])
      rw [show (1 : Int) = ((1 : Nat) : Int) from rfl, e, h]
    have hor : bits .or .i64 ((2 * A j : Nat) : Int) (((t.testBit (11 - k)).toNat : Nat) : Int) = ((A (j + 1) : Nat) : Int) := by
      obtain ⟨q, e, h⟩ := EqN.or (k := fun q => q = ((A (j + 1) : Nat) : Int)) (2 * A j) (t.testBit (11 - k)).toNat rfl rfl ⟨by omega, by have := Bool.toNat_le (t.testBit (11 - k)); omega⟩ (by rw [two_or, hS])
      rw [e, h]
    (repeat' ((conv => whnf); (first | (refine IfN.id ?_; first | refine IfN.dT (by omega) ?_ | fail) | (refine EqN.id ?_; first | refine EqN.mk _ hshl ?_ | refine EqN.mk _ hshr ?_ | refine EqN.mk _ hand ?_ | refine EqN.mk _ hor ?_ | (refine EqN.addN _ _ (by first | with_reducible rfl | with_reducible exact cst1 | with_reducible exact cst0 | with_reducible exact cst2 | with_reducible exact cst3 | with_reducible exact cst4 | with_reducible exact cst5 | with_reducible exact cst6 | with_reducible exact cst7 | with_reducible exact cst8 | with_reducible exact cst14 | with_reducible exact cst15 | with_reducible exact cst25 | with_reducible exact cst30 | with_reducible exact cst31 | fail) (by first | with_reducible rfl | with_reducible exact cst1 | with_reducible exact cst0 | with_reducible exact cst2 | with_reducible exact cst3 | with_reducible exact cst4 | with_reducible exact cst5 | with_reducible exact cst6 | with_reducible exact cst7 | with_reducible exact cst8 | with_reducible exact cst14 | with_reducible exact cst15 | with_reducible exact cst25 | with_reducible exact cst30 | with_reducible exact cst31 | fail) ?_ ?_; · (repeat' (first | omega | refine And.intro ?_ ?_ | exact bnd_andl (by omega) | exact bnd_andr (by omega) | refine bnd_or ?_ ?_ | refine bnd_or31 ?_ ?_ | refine bnd_xor ?_ ?_ | refine bnd_xor31 ?_ ?_ | refine bnd_shr ?_ | refine bnd_shl ?_ ?_ | refine bnd_mod ?_ | refine bnd_andl ?_ | fail))) | refine EqN.i64 (by omega) ?_ | refine EqN.u8 (by omega) ?_ | fail) | (refine SideN.mk ?_ ?_; · first | kernel_rfl | omega | exact List.cons_ne_nil _ _ | (simp; done) | (simp; omega) | exact trivial | assumption | fail) | refine SegN.nth (f := encS) (l := ns) 0 j rfl hlt (fun _ => rfl) ?_ | refine ByteN.mk d hb0 ?_ | refine DrawN.mk' [] ?_ | fail))); all_goals (conv => whnf)
    (refine ⟨⟨j + 1, by omega, by omega, ?_, .inl ⟨rfl, rfl⟩, rfl, _, rfl, ?_⟩⟩; rotate_left 1; (first | exact .inl rfl | exact .inr ⟨by simp [belowRE, below, belowL, tr, encB_below, fms_below, Fm.sc_below, encS_below, Fm.cb], by simp [belowH, Blk.below, belowL, below, encB_below, fms_below, Fm.sc_below, encS_below, Fm.cb]⟩ | fail); (repeat' (first | exact trivial | refine ⟨⟨_, rfl, ?_⟩, ?_⟩ | fail)); all_goals try (first | exact Wk.refl _ | exact Wk.of_eq (congrArg (AV.int _) (by omega)) | fail))
  · obtain rfl : j = ns.length := by omega
    clear hlt
    (repeat' ((conv => whnf); (first | (refine IfN.id ?_; first | refine IfN.dF (by omega) ?_ | fail) | (refine EqN.id ?_; first | refine EqN.i64 (by omega) ?_ | fail) | (refine CallN.id ?_; first | refine CallN.det _ (v1 _) ?_ | refine CallN.det _ (v2 _) ?_ | fail) | refine DrawN.mk' [] ?_ | fail))); all_goals (conv => whnf)
    refine loop_R Tryd.E0 Tryd.mx (σ := Nat) (fun i => i ≤ ns.length) (fun i => i) (fun i => [(17, .v (.int .i64 ((i : Nat) - 1 : Int)))]) (fun i => [.box 28 f.cells, .box 28 (G i).cells]) _ ns.length rfl hcl [6, 8, 11, 12, 13, 14, 15, 16] rfl (Nat.le_refl _) ⟨⟨_, rfl, Wk.refl _⟩, trivial⟩ (by rw [hfull]; rfl) (fun _ _ => rfl) ?_
    intro i hi
    rcases i with _ | j
    · (repeat' ((conv => whnf); (first | (refine IfN.id ?_; first | refine IfN.ff rfl ?_ | fail) | refine DrawN.mk' [] ?_ | fail))); all_goals (conv => whnf)
      refine LoopN.tok 16 9 1 rfl rfl rfl ?_
      refine loop_R Tryd.E0 Tryd.mx (σ := Nat × List AV) (fun p => p.1 ≤ ns.length ∧ p.2 = ((ns.take p.1).map (· + 1)).flatMap encS) (fun p => ns.length - p.1) (fun p => [(16, .v (.sl (some (H.length + 2)) p.1 p.2)), (85, .v (.int .i64 p.1))]) (fun p => [.box 28 f.cells, .box 28 (G 0).cells, .tok 9 1 p.2.length]) _ (0, []) rfl hcl [8, 11, 12, 13, 14, 15, 83, 84] rfl ⟨Nat.zero_le _, rfl⟩ ⟨⟨_, rfl, Wk.refl _⟩, ⟨_, rfl, Wk.refl _⟩, trivial⟩ rfl (fun _ _ => rfl) ?_
      rintro ⟨j, cs⟩ ⟨hj, hcs⟩
      simp only at hj hcs
      have hcb : ∀ n, belowL n cs := fun n => by rw [hcs]; exact encS_below _ _
      have hcl1 : cs.length = j * 1 := by rw [hcs]; exact long_len ns j hj
      by_cases hlt : j < ns.length
      · have hz := nm_z9 (hsm j hlt)
        have hts := take_snocS ns j hlt
        rw [← hcs, ← hz] at hts
        have hsz : (nm (ns.getD j 0)).size + (⟨#[122, 57]⟩ : ByteArray).size ≤ 9223372036854775807 := by
          have := nmL_len (ns.getD j 0)
          have : (⟨#[122, 57]⟩ : ByteArray).size = 2 := rfl
          rw [nm_size]
          omega
        (repeat' ((conv => whnf); (first | (refine IfN.id ?_; first | refine IfN.dT (by omega) ?_ | fail) | (refine EqN.id ?_; first | (refine EqN.addN _ _ (by first | with_reducible rfl | with_reducible exact cst1 | with_reducible exact cst0 | with_reducible exact cst2 | with_reducible exact cst3 | with_reducible exact cst4 | with_reducible exact cst5 | with_reducible exact cst6 | with_reducible exact cst7 | with_reducible exact cst8 | with_reducible exact cst14 | with_reducible exact cst15 | with_reducible exact cst25 | with_reducible exact cst30 | with_reducible exact cst31 | fail) (by first | with_reducible rfl | with_reducible exact cst1 | with_reducible exact cst0 | with_reducible exact cst2 | with_reducible exact cst3 | with_reducible exact cst4 | with_reducible exact cst5 | with_reducible exact cst6 | with_reducible exact cst7 | with_reducible exact cst8 | with_reducible exact cst14 | with_reducible exact cst15 | with_reducible exact cst25 | with_reducible exact cst30 | with_reducible exact cst31 | fail) ?_ ?_; · (repeat' (first | omega | refine And.intro ?_ ?_ | exact bnd_andl (by omega) | exact bnd_andr (by omega) | refine bnd_or ?_ ?_ | refine bnd_or31 ?_ ?_ | refine bnd_xor ?_ ?_ | refine bnd_xor31 ?_ ?_ | refine bnd_shr ?_ | refine bnd_shl ?_ ?_ | refine bnd_mod ?_ | refine bnd_andl ?_ | fail))) | fail) | (refine SideN.mk ?_ ?_; · first | kernel_rfl | omega | exact List.cons_ne_nil _ _ | (simp; done) | (simp; omega) | exact trivial | assumption | fail) | refine SegN.nth (f := encS) (l := ns) 0 j rfl hlt (fun _ => rfl) ?_ | refine SideN.mk ⟨rfl, rfl, rfl, by dsimp only; omega, by simp only [maxLen]; omega⟩ ?_ | (refine PtrN.id ?_; first | refine PtrN.loc _ rfl ?_ | fail) | refine DrawN.mk' [] ?_ | fail))); all_goals (conv => whnf)
        have hbb : ∀ n, belowL n (cs ++ [.str (nm (ns.getD j 0) ++ ⟨#[122, 57]⟩)]) := fun n => (belowL_append _ _).2 ⟨hcb n, by simp [belowL, below]⟩
        refine ⟨⟨(j + 1, cs ++ [.str (nm (ns.getD j 0) ++ ⟨#[122, 57]⟩)]), ⟨by simp only; omega, by simp only; exact hts.symm⟩, by simp only; omega, ⟨⟨_, rfl, Wk.refl _⟩, ⟨_, rfl, Wk.refl _⟩, trivial⟩, .inl ⟨rfl, rfl⟩, rfl, _, rfl, .inr ⟨⟨⟨fun t h => ?_, hbb _⟩, trivial, trivial⟩, ?_⟩⟩⟩
        · cases h; omega
        · simp [belowH, Blk.below, Fm.cb]
      · have hjn : j = ns.length := by omega
        rw [hjn, List.take_length] at hcs
        have v3' : ∀ H', VDet Tryd.prog 21 [.agg (G 0).cells, .sl (some (H.length + 2)) ns.length cs, .int .i64 (A ns.length : Nat)] H' (.tup [.bool y, .int .i64 0]) := fun H' => VDet.wk (v3 H') ⟨Wk.refl _, hcs ▸ wk_sl _ _ _, Wk.refl _, trivial⟩
        subst hjn
        (repeat' ((conv => whnf); (first | (refine IfN.id ?_; first | refine IfN.tt rfl ?_ | refine IfN.dF (by omega) ?_ | refine IfN.dec (fun _ => ?_) (fun _ => ?_) | fail) | (refine CallN.id ?_; first | refine CallN.det _ (v3' _) ?_ | fail) | refine DrawN.mk' [] ?_ | fail))); all_goals (conv => whnf)
        all_goals exact EndN.det trivial (Wk.of_eq (by first | rfl | exact absurd rfl (by assumption) | simp))
    · have hlt : j < ns.length := by omega
      have hz := nm_z9 (hsm j hlt)
      have ha : ∀ H, VDet Tryd.prog 22 [.str (nm (ns.getD j 0) ++ ⟨#[122, 57]⟩)] H (.agg (Fm.at (ns.getD j 0 + 1)).cells) := by rw [hz]; exact atom_c _
      have hp := hput j hlt
      have hsz : (nm (ns.getD j 0)).size + (⟨#[122, 57]⟩ : ByteArray).size ≤ 9223372036854775807 := by
        have := nmL_len (ns.getD j 0)
        have : (⟨#[122, 57]⟩ : ByteArray).size = 2 := rfl
        rw [nm_size]
        omega
      (repeat' ((conv => whnf); (first | (refine IfN.id ?_; first | refine IfN.dT (by omega) ?_ | fail) | (refine EqN.id ?_; first | refine EqN.i64 (by omega) ?_ | fail) | (refine SideN.mk ?_ ?_; · first | kernel_rfl | omega | exact List.cons_ne_nil _ _ | (simp; done) | (simp; omega) | exact trivial | assumption | fail) | (refine CallD.id ?_; first | refine CallD.det _ (fun _ hq X => ha _) ?_ | refine CallD.det _ (fun _ hq X => hp _) ?_ | fail) | refine SegN.nth (f := encS) (l := ns) 0 j (by omega) hlt (fun _ => rfl) ?_ | refine DrawN.mk' [] ?_ | fail))); all_goals (conv => whnf)
      (refine ⟨⟨j, by omega, by omega, ?_, .inl ⟨rfl, rfl⟩, rfl, _, rfl, ?_⟩⟩; rotate_left 1; (first | exact .inl rfl | exact .inr ⟨by simp [belowRE, below, belowL, tr, encB_below, fms_below, Fm.sc_below, encS_below, Fm.cb], by simp [belowH, Blk.below, belowL, below, encB_below, fms_below, Fm.sc_below, encS_below, Fm.cb]⟩ | fail); (repeat' (first | exact trivial | refine ⟨⟨_, rfl, ?_⟩, ?_⟩ | fail)); all_goals try (first | exact Wk.refl _ | exact Wk.of_eq (congrArg (AV.int _) (by omega)) | fail))
end Go.Proofs.YtekhodpmpjehaaaDoor
