/- A text of the proof: the parts RV10, RW10, RX10, RZ10, RY10, D11. -/
import Derived.Test.YtekhodpmpjehaaaDoorK7
set_option linter.unusedSimpArgs false
set_option linter.unusedVariables false
/-! text RV10 -/
namespace Go.Proofs.YtekhodpmpjehaaaDoor
open Go.Vsi
set_option maxHeartbeats 4000000
attribute [local irreducible] VW VCall VO bits

/-! ### the law TruthPuts -/
theorem built_take (l : List Nat) (n : Nat) (hb : ∀ i, i < l.length → l.getD i 0 ≤ 255) (hn : n ≤ 30) (H : Heap) : VDet Tryd.prog 11 [.sl none ((min ((l.length : Nat) : Int) (n : Nat)).toNat - 0) (((l.drop 0).take ((min ((l.length : Nat) : Int) (n : Nat)).toNat - 0)).flatMap encB)] H (.agg (bltF (l.take n)).cells) := by
  rw [show (min ((l.length : Nat) : Int) (n : Nat)).toNat - 0 = min l.length n by omega, List.drop_zero, show l.take (min l.length n) = l.take n by
    rcases Nat.le_total l.length n with h | h
    · rw [Nat.min_eq_left h, List.take_length, List.take_of_length_le h]
    · rw [Nat.min_eq_right h]]
  have := built_c (l.take n) (by rw [List.length_take]; omega) (fun i hi => by
    rw [List.length_take] at hi
    have := hb i (by omega)
    rwa [List.getD_eq_getElem?_getD, List.getElem?_take, if_pos (by omega), ← List.getD_eq_getElem?_getD]) H
  rwa [List.length_take, Nat.min_comm] at this
theorem vb_with (k t : Nat) (hk : k < 12) (b : Bool) (c : UInt8) (hc : c ∈ lets) : vb lets ((t ^^^ (t &&& 2 ^ (11 - k))) ||| (if b then 2 ^ (11 - k) else 0)) c = upd (vb lets t) (lets.getD k 0) b c := by
  obtain ⟨j, hj, rfl⟩ := mem_getD lets c hc
  have hj : j < 12 := hj
  have hix : ∀ i, i < 12 → ixN lets (lets.getD i 0) = i := by decide
  have hne : ∀ i, i < 12 → ∀ i', i' < 12 → (lets.getD i 0 = lets.getD i' 0 ↔ i = i') := by decide
  unfold upd vb
  simp only [hix j hj, hne j hj k hk, show lets.length = 12 from rfl]
  rw [Nat.testBit_or, Nat.testBit_xor, Nat.testBit_and, Nat.testBit_two_pow]
  by_cases e : j = k
  · subst e
    rw [if_pos rfl, show (12 - 1 - j) = 11 - j by omega]
    cases b <;> simp
  · rw [if_neg e]
    have : ¬ 11 - k = 12 - 1 - j := by omega
    cases b <;> simp [this, Nat.testBit_two_pow]
theorem puts_c (l m : List Nat) (hl : l.length ≤ 9223372036854775807) (hb : ∀ i, i < l.length → l.getD i 0 ≤ 255) (hm : m.length ≤ 9223372036854775807) (hc : ∀ i, i < m.length → m.getD i 0 ≤ 255) (w v : Nat) (hw : w ≤ 255) (hv : v ≤ 65535) (H : Heap) :
    VDet Tryd.prog 3 [.sl none l.length (l.flatMap encB), .sl none m.length (m.flatMap encB), .int .u8 w, .int .u16 v] H (.bool true) := by
  have b1 := built_take l 12 hb (by omega)
  have b2 := built_take m 12 hc (by omega)
  have z1 := blt12 l 12
  have z2 := blt12 m 12
  generalize bltF (l.take 12) = f at *
  generalize bltF (m.take 12) = g at *
  obtain ⟨k, hk, hk12⟩ : ∃ k, w % 12 = k ∧ k < 12 := ⟨_, rfl, Nat.mod_lt _ (by decide)⟩
  obtain ⟨t, ht, ht4⟩ : ∃ t, v % 4096 = t ∧ t < 4096 := ⟨_, rfl, Nat.mod_lt _ (by decide)⟩
  have hp := put_c (lets.getD k 0) g f z1.nice.pr
  have gp := put_good (k := lets.getD k 0) z1 z2 (by omega)
  have np := put_nice (k := lets.getD k 0) z2.nice f z1.nice
  have v1 := value_c _ gp np.inl t ht4
  have v2 := value_c g (z2.mono (by omega)).good z2.nice.inl t ht4
  have v3 := fun t (ht : t < 4096) => value_c f (z1.mono (by omega)).good z1.nice.inl t ht
  have hev : (putF (lets.getD k 0) g f).ev (vb lets t) = f.ev (vb lets ((t ^^^ (t &&& 2 ^ (11 - k))) ||| (if g.ev (vb lets t) then 2 ^ (11 - k) else 0))) := by
    rw [ev_put]
    exact ev_has f fun c hc => (vb_with k t hk12 _ c ((in_iff lets f).1 z1.nice.inl c hc)).symm
  have hsub : IntKind.i64.wrap (11 - (k : Int)) = ((11 - k : Nat) : Int) := by rw [IntWalk.i64_in _ (by omega)]; omega
  have hp2 : 2 ^ (11 - k) ≤ 2048 := by
    have := Nat.pow_le_pow_right (n := 2) (by omega) (show 11 - k ≤ 11 by omega)
    simpa using this
  obtain ⟨p, hp2', hp3⟩ : ∃ p, 2 ^ (11 - k) = p ∧ p ≤ 2048 := ⟨_, rfl, hp2⟩
  have htwo : IntKind.i64.wrap (1 * 2 ^ min ((11 - k : Nat) : Int).toNat IntKind.i64.bits) = (p : Int) := by
    obtain ⟨y, e, h⟩ := EqN.two (k := fun y => y = (p : Int)) (11 - k) (by omega) (by rw [hp2'])
    rw [e, h]
  have hand : bits .andNot .i64 (t : Int) (p : Int) = ((t ^^^ (t &&& p) : Nat) : Int) := by
    obtain ⟨y, e, h⟩ := EqN.andNot (k := fun y => y = ((t ^^^ (t &&& p) : Nat) : Int)) t p rfl rfl ⟨by omega, by omega⟩ rfl
    rw [e, h]
  have ha : t ^^^ (t &&& p) < 4096 := Nat.xor_lt_two_pow (n := 12) ht4 (Nat.lt_of_le_of_lt Nat.and_le_left ht4)
  have hor : bits .or .i64 ((t ^^^ (t &&& p) : Nat) : Int) (p : Int) = (((t ^^^ (t &&& p)) ||| p : Nat) : Int) := by
    obtain ⟨y, e, h⟩ := EqN.or (k := fun y => y = (((t ^^^ (t &&& p)) ||| p : Nat) : Int)) (t ^^^ (t &&& p)) p rfl rfl ⟨by omega, by omega⟩ rfl
    rw [e, h]
  have ho : (t ^^^ (t &&& p)) ||| p < 4096 := Nat.or_lt_two_pow (n := 12) ha (by omega)
  rw [hp2'] at hev
  have v4 := v3 _ ha
  have v5 := v3 _ ho
  clear v3 hp2'
  generalize hpb0 : (putF (lets.getD k 0) g f).ev (vb lets t) = pb at *
  have hfb := fun n => f.sc_below n
  have hgb := fun n => g.sc_below n
  have hpb := fun n => (putF (lets.getD k 0) g f).sc_below n
  have hfc : f.cells = [.int .u8 f.op, .str f.nmB, .sl none 0 [], .sl none f.sn f.sc] := rfl
  have hgc : g.cells = [.int .u8 g.op, .str g.nmB, .sl none 0 [], .sl none g.sn g.sc] := rfl
  have hpc : (putF (lets.getD k 0) g f).cells = [.int .u8 (putF (lets.getD k 0) g f).op, .str (putF (lets.getD k 0) g f).nmB, .sl none 0 [], .sl none (putF (lets.getD k 0) g f).sn (putF (lets.getD k 0) g f).sc] := rfl
  have hend : pb = if g.ev (vb lets t) then f.ev (vb lets ((t ^^^ (t &&& p)) ||| p)) else f.ev (vb lets (t ^^^ (t &&& p))) := by
    rw [hev]
    cases g.ev (vb lets t) <;> simp
  generalize (t ^^^ (t &&& p)) ||| p = o at *
  generalize t ^^^ (t &&& p) = a at *
  generalize g.ev (vb lets t) = gb at *
  generalize f.ev (vb lets o) = y1 at *
  generalize f.ev (vb lets a) = y2 at *
  rw [hfc] at b1 hp v4 v5
  rw [hgc] at b2 hp v2
  rw [hpc] at v1 hp
  generalize (putF (lets.getD k 0) g f).op = po at *
  generalize (putF (lets.getD k 0) g f).nmB = pn at *
  generalize (putF (lets.getD k 0) g f).sn = psn at *
  generalize (putF (lets.getD k 0) g f).sc = psc at *
  generalize f.op = fo at *
  generalize f.nmB = fn at *
  generalize f.sn = fsn at *
  generalize f.sc = fsc at *
  generalize g.op = go at *
  generalize g.nmB = gn at *
  generalize g.sn = gsn at *
  generalize g.sc = gsc at *
  clear hev
  cases gb with
  | true =>
    refine fn_det Tryd.E0 Tryd.mx Tryd.func3 (by kernel_rfl) rfl (Nat.le_of_ble_eq_true rfl) rfl fun hcl hbl => ?_
    (repeat' ((conv => whnf); (first | (refine IfN.id ?_; first | refine IfN.not ?_ | refine IfN.tt rfl ?_ | fail) | (refine EqN.id ?_; first | refine EqN.remC _ rfl rfl hk ?_ | refine EqN.remC _ rfl rfl ht ?_ | refine EqN.mk _ hsub ?_ | refine EqN.mk _ htwo ?_ | refine EqN.mk _ hand ?_ | refine EqN.mk _ hor ?_ | refine EqN.i64 (by omega) ?_ | fail) | (refine SideN.mk ?_ ?_; · first | kernel_rfl | omega | exact List.cons_ne_nil _ _ | (simp; done) | (simp; omega) | exact trivial | assumption | fail) | refine NatN.at_ (by omega) ?_ | (refine CallN.id ?_; first | refine CallN.det _ (awake_c _) ?_ | refine CallN.det _ (v2 _) ?_ | refine CallN.det _ (v5 _) ?_ | fail) | (refine CallD.id ?_; first | refine CallD.det _ (fun _ hq X => letters_c _) ?_ | refine CallD.det _ (fun _ hq X => b1 _) ?_ | refine CallD.det _ (fun _ hq X => b2 _) ?_ | refine CallD.det _ (fun _ hq X => hp _) ?_ | refine CallD.det _ (fun _ hq X => v1 _) ?_ | fail) | refine SubN.flat (lo := 0) (n := (min ((l.length : Nat) : Int) 12).toNat - 0) (fun _ => rfl) (by omega) ?_ | refine SubN.flat (lo := 0) (n := (min ((m.length : Nat) : Int) 12).toNat - 0) (fun _ => rfl) (by omega) ?_ | refine SegN.nth (f := encS) (l := lets) 0 k rfl hk12 (fun _ => rfl) ?_ | refine DrawN.mk' [] ?_ | fail))); all_goals (conv => whnf)
    refine EndN.det trivial (Wk.of_eq ?_)
    simp [hend]
  | false =>
    refine fn_det Tryd.E0 Tryd.mx Tryd.func3 (by kernel_rfl) rfl (Nat.le_of_ble_eq_true rfl) rfl fun hcl hbl => ?_
    (repeat' ((conv => whnf); (first | (refine IfN.id ?_; first | refine IfN.not ?_ | refine IfN.tt rfl ?_ | refine IfN.ff rfl ?_ | fail) | (refine EqN.id ?_; first | refine EqN.remC _ rfl rfl hk ?_ | refine EqN.remC _ rfl rfl ht ?_ | refine EqN.mk _ hsub ?_ | refine EqN.mk _ htwo ?_ | refine EqN.mk _ hand ?_ | refine EqN.i64 (by omega) ?_ | fail) | (refine SideN.mk ?_ ?_; · first | kernel_rfl | omega | exact List.cons_ne_nil _ _ | (simp; done) | (simp; omega) | exact trivial | assumption | fail) | refine NatN.at_ (by omega) ?_ | (refine CallN.id ?_; first | refine CallN.det _ (awake_c _) ?_ | refine CallN.det _ (v2 _) ?_ | refine CallN.det _ (v4 _) ?_ | fail) | (refine CallD.id ?_; first | refine CallD.det _ (fun _ hq X => letters_c _) ?_ | refine CallD.det _ (fun _ hq X => b1 _) ?_ | refine CallD.det _ (fun _ hq X => b2 _) ?_ | refine CallD.det _ (fun _ hq X => hp _) ?_ | refine CallD.det _ (fun _ hq X => v1 _) ?_ | fail) | refine SubN.flat (lo := 0) (n := (min ((l.length : Nat) : Int) 12).toNat - 0) (fun _ => rfl) (by omega) ?_ | refine SubN.flat (lo := 0) (n := (min ((m.length : Nat) : Int) 12).toNat - 0) (fun _ => rfl) (by omega) ?_ | refine SegN.nth (f := encS) (l := lets) 0 k rfl hk12 (fun _ => rfl) ?_ | refine DrawN.mk' [] ?_ | fail))); all_goals (conv => whnf)
    refine EndN.det trivial (Wk.of_eq ?_)
    simp [hend]
end Go.Proofs.YtekhodpmpjehaaaDoor
/-! text RW10 -/
namespace Go.Proofs.YtekhodpmpjehaaaDoor
open Go.Vsi
set_option maxHeartbeats 4000000
attribute [local irreducible] VW VCall VO bits

/-! ### the law TruthDeduces -/
structure Fm.Mid (f : Fm) : Prop where
  nice : f.Nice
  nodes : f.nodes ≤ 130
  depth : f.depth ≤ 40
theorem Fm.Mid.good {f : Fm} (h : f.Mid) : f.Good := h.nice.good (by have := h.nodes; omega) h.depth
theorem Fm.Sz.mid {f : Fm} (h : f.Sz 30) : f.Mid := ⟨h.nice, by have := h.nodes; omega, by have := h.depth; omega⟩
theorem Fm.Sz.mid1 {f : Fm} (h : f.Sz 30) : (Fm.f1 3 f).Mid := ⟨nice_1 h.nice, by have := h.nodes; simp only [Fm.nodes]; omega, by have := h.depth; simp only [Fm.depth]; omega⟩
theorem Fm.Sz.mid2 {f g : Fm} (h : f.Sz 30) (h2 : g.Sz 30) (k : Nat) (hk : k = 4 ∨ k = 5 ∨ k = 6 ∨ k = 7) : (Fm.f2 k f g).Mid := ⟨nice_2 h.nice h2.nice k hk, by have := h.nodes; have := h2.nodes; simp only [Fm.nodes]; omega, by have := h.depth; have := h2.depth; simp only [Fm.depth]; omega⟩
theorem nodesL_mid : ∀ l : List Fm, (∀ f ∈ l, f.Mid) → nodesL l ≤ 130 * l.length
  | [], _ => by simp [nodesL]
  | f :: l, h => by
    have := nodesL_mid l fun g hg => h g (List.mem_cons_of_mem _ hg)
    have := (h f (List.mem_cons_self ..)).nodes
    simp only [nodesL, List.length_cons]
    omega
theorem fol_c (L R : List Fm) (h : ∀ f ∈ L ++ R, f.Mid) (hlen : L.length + R.length ≤ 6) (H : Heap) : VDet Tryd.prog 15 [.agg [.sl none L.length (L.flatMap Fm.cells), .sl none R.length (R.flatMap Fm.cells)]] H (.tup [.bool (falV L R).isNone, .int .i64 0]) :=
  follows_c L R (fun f hf => (h f hf).good) (by have := nodesL_mid _ h; rw [List.length_append] at this; omega) (by omega) (names_12 _ fun f hf => (h f hf).nice.inl) H
theorem wk_row {n : Nat} {l l2 : List AV} (e : l = l2) : Wk (.sx n l) (.sl none n l2) := e ▸ wk_sx _ _
theorem isNone_iff (L R : List Fm) : (falV L R).isNone = true ↔ ∀ r, falR L R r = false := by
  rw [Option.isNone_iff_eq_none]
  exact fal_none L R
theorem b_eq {a b : Bool} (h : a = true ↔ b = true) : a = b := Bool.eq_iff_iff.2 h
theorem ded1 (a b c : Fm) : (falV [c, a] [b]).isNone = (falV [c] [.f2 6 a b]).isNone := by
  apply b_eq
  rw [isNone_iff, isNone_iff]
  refine forall_congr' fun r => ?_
  simp only [falR, List.all_cons, List.all_nil, Fm.ev]
  cases a.ev r <;> cases b.ev r <;> cases c.ev r <;> simp
theorem ded2 (a b c d : Fm) (h : (falV [c, a] [b]).isNone = true) : (falV [d, c, a] [b]).isNone = true := by
  rw [isNone_iff] at h ⊢
  intro r
  have := h r
  simp only [falR, List.all_cons, List.all_nil] at this ⊢
  revert this
  cases a.ev r <;> cases b.ev r <;> cases c.ev r <;> cases d.ev r <;> simp
theorem ded3 (a b c : Fm) : (falV [.f1 3 b, c, a] []).isNone = (falV [c, a] [b]).isNone := by
  apply b_eq
  rw [isNone_iff, isNone_iff]
  refine forall_congr' fun r => ?_
  simp only [falR, List.all_cons, List.all_nil, Fm.ev]
  cases a.ev r <;> cases b.ev r <;> cases c.ev r <;> simp
theorem ded4 (a b d : Fm) : (falV [a] [.f2 4 b d]).isNone = ((falV [a] [b]).isNone && (falV [a] [d]).isNone) := by
  apply b_eq
  rw [Bool.and_eq_true, isNone_iff, isNone_iff, isNone_iff, ← forall_and]
  refine forall_congr' fun r => ?_
  simp only [falR, List.all_cons, List.all_nil, Fm.ev]
  cases a.ev r <;> cases b.ev r <;> cases d.ev r <;> simp
theorem deduces_c (l m n o : List Nat) (hl : l.length ≤ 9223372036854775807) (hb : ∀ i, i < l.length → l.getD i 0 ≤ 255) (hm : m.length ≤ 9223372036854775807) (hc : ∀ i, i < m.length → m.getD i 0 ≤ 255) (hn : n.length ≤ 9223372036854775807) (hd : ∀ i, i < n.length → n.getD i 0 ≤ 255) (ho : o.length ≤ 9223372036854775807) (he : ∀ i, i < o.length → o.getD i 0 ≤ 255) (H : Heap) :
    VDet Tryd.prog 4 [.sl none l.length (l.flatMap encB), .sl none m.length (m.flatMap encB), .sl none n.length (n.flatMap encB), .sl none o.length (o.flatMap encB)] H (.bool true) := by
  have b1 := built_c l hl hb
  have b2 := built_c m hm hc
  have b3 := built_c n hn hd
  have b4 := built_c o ho he
  have z1 := blt30 l
  have z2 := blt30 m
  have z3 := blt30 n
  have z4 := blt30 o
  generalize bltF l = c at *
  generalize bltF m = a at *
  generalize bltF n = b at *
  generalize bltF o = d at *
  generalize l.flatMap encB = lb at *
  generalize m.flatMap encB = mb at *
  generalize n.flatMap encB = nb at *
  generalize o.flatMap encB = ob at *
  have f1 : ∀ H, VDet Tryd.prog 15 [.agg [.sx 2 (c.cells ++ a.cells), .sx 1 b.cells]] H (.tup [.bool (falV [c, a] [b]).isNone, .int .i64 0]) := fun H =>
    VDet.wk (fol_c [c, a] [b] (by simp [z1.mid, z2.mid, z3.mid]) (by simp) H) ⟨wk_agg ⟨wk_row (by simp), wk_row (by simp), trivial⟩, trivial⟩
  have f2 : ∀ H, VDet Tryd.prog 15 [.agg [.sx 1 c.cells, .sx 1 (Fm.f2 6 a b).cells]] H (.tup [.bool (falV [c] [.f2 6 a b]).isNone, .int .i64 0]) := fun H =>
    VDet.wk (fol_c [c] [.f2 6 a b] (by simp [z1.mid, z2.mid2 z3 6 (by omega)]) (by simp) H) ⟨wk_agg ⟨wk_row (by simp), wk_row (by simp), trivial⟩, trivial⟩
  have f3 : ∀ H, VDet Tryd.prog 15 [.agg [.sx 3 (d.cells ++ c.cells ++ a.cells), .sx 1 b.cells]] H (.tup [.bool (falV [d, c, a] [b]).isNone, .int .i64 0]) := fun H =>
    VDet.wk (fol_c [d, c, a] [b] (by simp [z1.mid, z2.mid, z3.mid, z4.mid]) (by simp) H) ⟨wk_agg ⟨wk_row (by simp), wk_row (by simp), trivial⟩, trivial⟩
  have f4 : ∀ H, VDet Tryd.prog 15 [.agg [.sx 3 ((Fm.f1 3 b).cells ++ c.cells ++ a.cells), .nils]] H (.tup [.bool (falV [.f1 3 b, c, a] []).isNone, .int .i64 0]) := fun H =>
    VDet.wk (fol_c [.f1 3 b, c, a] [] (by simp [z1.mid, z2.mid, z3.mid1]) (by simp) H) ⟨wk_agg ⟨wk_row (by simp), wk_nils, trivial⟩, trivial⟩
  have f5 : ∀ H, VDet Tryd.prog 15 [.agg [.sx 1 a.cells, .sx 1 (Fm.f2 4 b d).cells]] H (.tup [.bool (falV [a] [.f2 4 b d]).isNone, .int .i64 0]) := fun H =>
    VDet.wk (fol_c [a] [.f2 4 b d] (by simp [z2.mid, z3.mid2 z4 4 (by omega)]) (by simp) H) ⟨wk_agg ⟨wk_row (by simp), wk_row (by simp), trivial⟩, trivial⟩
  have f6 : ∀ H, VDet Tryd.prog 15 [.agg [.sx 1 a.cells, .sx 1 b.cells]] H (.tup [.bool (falV [a] [b]).isNone, .int .i64 0]) := fun H =>
    VDet.wk (fol_c [a] [b] (by simp [z2.mid, z3.mid]) (by simp) H) ⟨wk_agg ⟨wk_row (by simp), wk_row (by simp), trivial⟩, trivial⟩
  have f7 : ∀ H, VDet Tryd.prog 15 [.agg [.sx 1 a.cells, .sx 1 d.cells]] H (.tup [.bool (falV [a] [d]).isNone, .int .i64 0]) := fun H =>
    VDet.wk (fol_c [a] [d] (by simp [z2.mid, z4.mid]) (by simp) H) ⟨wk_agg ⟨wk_row (by simp), wk_row (by simp), trivial⟩, trivial⟩
  have j1 : ∀ H, VDet Tryd.prog 16 [.int .u8 6, .sx 2 (a.cells ++ b.cells)] H (.agg (Fm.f2 6 a b).cells) := fun H => VDet.wk (join2_c 6 a b H) ⟨Wk.refl _, wk_sx _ _, trivial⟩
  have j2 : ∀ H, VDet Tryd.prog 16 [.int .u8 4, .sx 2 (b.cells ++ d.cells)] H (.agg (Fm.f2 4 b d).cells) := fun H => VDet.wk (join2_c 4 b d H) ⟨Wk.refl _, wk_sx _ _, trivial⟩
  have j3 : ∀ H, VDet Tryd.prog 16 [.int .u8 3, .sx 1 b.cells] H (.agg (Fm.f1 3 b).cells) := fun H => VDet.wk (join1_c 3 b H) ⟨Wk.refl _, wk_sx _ _, trivial⟩
  have p1 := ded1 a b c
  have p2 := ded2 a b c d
  have p3 := ded3 a b c
  have p4 := ded4 a b d
  generalize (falV [c, a] [b]).isNone = x at *
  generalize (falV [c] [.f2 6 a b]).isNone = y at *
  generalize (falV [d, c, a] [b]).isNone = z at *
  generalize (falV [.f1 3 b, c, a] []).isNone = w at *
  generalize (falV [a] [.f2 4 b d]).isNone = u at *
  generalize (falV [a] [b]).isNone = p at *
  generalize (falV [a] [d]).isNone = q at *
  subst p1 p3 p4
  clear z1 z2 z3 z4
  refine fn_det Tryd.E0 Tryd.mx Tryd.func4 (by kernel_rfl) rfl (Nat.le_of_ble_eq_true rfl) rfl fun hcl hbl => ?_
  (repeat' ((conv => whnf); (first | (refine IfN.id ?_; first | refine IfN.not ?_ | refine IfN.tt rfl ?_ | refine IfN.dT (by omega) ?_ | refine IfN.dec (fun _ => ?_) (fun _ => ?_) | (refine IfN.mk ?_ ?_ <;> intro _) | fail) | (refine EqN.id ?_; first | (refine EqN.addN _ _ (by first | with_reducible rfl | with_reducible exact cst1 | with_reducible exact cst0 | with_reducible exact cst2 | with_reducible exact cst3 | with_reducible exact cst4 | with_reducible exact cst5 | with_reducible exact cst6 | with_reducible exact cst7 | with_reducible exact cst8 | with_reducible exact cst14 | with_reducible exact cst15 | with_reducible exact cst25 | with_reducible exact cst30 | with_reducible exact cst31 | fail) (by first | with_reducible rfl | with_reducible exact cst1 | with_reducible exact cst0 | with_reducible exact cst2 | with_reducible exact cst3 | with_reducible exact cst4 | with_reducible exact cst5 | with_reducible exact cst6 | with_reducible exact cst7 | with_reducible exact cst8 | with_reducible exact cst14 | with_reducible exact cst15 | with_reducible exact cst25 | with_reducible exact cst30 | with_reducible exact cst31 | fail) ?_ ?_; · (repeat' (first | omega | refine And.intro ?_ ?_ | exact bnd_andl (by omega) | exact bnd_andr (by omega) | refine bnd_or ?_ ?_ | refine bnd_or31 ?_ ?_ | refine bnd_xor ?_ ?_ | refine bnd_xor31 ?_ ?_ | refine bnd_shr ?_ | refine bnd_shl ?_ ?_ | refine bnd_mod ?_ | refine bnd_andl ?_ | fail))) | fail) | (refine SideN.mk ?_ ?_; · first | kernel_rfl | omega | exact List.cons_ne_nil _ _ | (simp; done) | (simp; omega) | exact trivial | assumption | fail) | (refine CallN.id ?_; first | refine CallN.det _ (awake_c _) ?_ | refine CallN.det _ (b1 _) ?_ | refine CallN.det _ (b2 _) ?_ | refine CallN.det _ (b3 _) ?_ | refine CallN.det _ (b4 _) ?_ | refine CallN.det _ (f1 _) ?_ | refine CallN.det _ (f3 _) ?_ | refine CallN.det _ (f6 _) ?_ | refine CallN.det _ (f7 _) ?_ | fail) | (refine CallD.id ?_; first | refine CallD.det _ (fun _ hq X => j1 _) ?_ | refine CallD.det _ (fun _ hq X => j2 _) ?_ | refine CallD.det _ (fun _ hq X => j3 _) ?_ | refine CallD.det _ (fun _ hq X => f2 _) ?_ | refine CallD.det _ (fun _ hq X => f4 _) ?_ | refine CallD.det _ (fun _ hq X => f5 _) ?_ | fail) | refine DrawN.mk' [] ?_ | fail))); all_goals (conv => whnf)
  all_goals
    refine EndN.det trivial (Wk.of_eq (congrArg AV.bool ?_))
    simp_all
end Go.Proofs.YtekhodpmpjehaaaDoor
/-! text RX10 -/
namespace Go.Proofs.YtekhodpmpjehaaaDoor
open Go.Vsi
set_option maxHeartbeats 4000000
attribute [local irreducible] VW VCall VO bits

/-! ### the law TruthEqual -/
structure Fm.GI (f : Fm) : Prop where
  good : f.Good
  inl : f.In lets
theorem Fm.Mid.gi {f : Fm} (h : f.Mid) : f.GI := ⟨h.good, h.nice.inl⟩
theorem Fm.Mid.n1 {f : Fm} {m : Nat} (h : f.Nice) (h1 : f.nodes ≤ m) (h2 : f.depth ≤ m) (hm : m ≤ 40) : f.Mid := ⟨h, by omega, by omega⟩
theorem not_c (f : Fm) (H : Heap) : VDet Tryd.prog 23 [.agg f.cells] H (.agg (Fm.f1 3 f).cells) := by
  have j3 : ∀ H, VDet Tryd.prog 16 [.int .u8 3, .sx 1 f.cells] H (.agg (Fm.f1 3 f).cells) := fun H => VDet.wk (join1_c 3 f H) ⟨Wk.refl _, wk_sx _ _, trivial⟩
  refine fn_det Tryd.E0 Tryd.mx Tryd.func23 (by kernel_rfl) rfl (Nat.le_of_ble_eq_true rfl) rfl fun hcl hbl => ?_
  (repeat' ((conv => whnf); (first | (refine CallN.id ?_; first | refine CallN.det _ (j3 _) ?_ | fail) | refine DrawN.mk' [] ?_ | fail))); all_goals (conv => whnf)
  exact EndN.det (by simp [Fm.cells, below, belowL, Fm.sc_below]) (Wk.refl _)
theorem is_c (f g : Fm) (hf : f.GI) (hg : g.GI) (H : Heap) : VDet Tryd.prog 24 [.agg f.cells, .agg g.cells] H (.bool (eqAll f g)) := by
  have h1 := equal_c f g hf.good hg.good (names_12 _ (by simp [hf.inl, hg.inl]))
  generalize eqAll f g = b at *
  refine fn_det Tryd.E0 Tryd.mx Tryd.func24 (by kernel_rfl) rfl (Nat.le_of_ble_eq_true rfl) rfl fun hcl hbl => ?_
  (repeat' ((conv => whnf); (first | (refine IfN.id ?_; first | (refine IfN.mk ?_ ?_ <;> intro _) | fail) | (refine CallN.id ?_; first | refine CallN.det _ (h1 _) ?_ | fail) | refine DrawN.mk' [] ?_ | fail))); all_goals (conv => whnf)
  all_goals exact EndN.det trivial (Wk.of_eq (by simp_all))
theorem wk2 (a b : Fm) : Wk (.sx 2 (a.cells ++ b.cells)) (.sl none 2 (a.cells ++ b.cells)) := wk_sx _ _
theorem jn2 (k : Nat) (a b : Fm) (H : Heap) : VDet Tryd.prog 16 [.int .u8 k, .sx 2 (a.cells ++ b.cells)] H (.agg (Fm.f2 k a b).cells) := VDet.wk (join2_c k a b H) ⟨Wk.refl _, wk_sx _ _, trivial⟩
theorem eqAll_of {f g : Fm} (h : ∀ r, f.ev r = g.ev r) : eqAll f g = true := (eqAll_iff f g).2 h
theorem equal_law (l m n : List Nat) (hl : l.length ≤ 9223372036854775807) (hb : ∀ i, i < l.length → l.getD i 0 ≤ 255) (hm : m.length ≤ 9223372036854775807) (hc : ∀ i, i < m.length → m.getD i 0 ≤ 255) (hn : n.length ≤ 9223372036854775807) (hd : ∀ i, i < n.length → n.getD i 0 ≤ 255) (H : Heap) :
    VDet Tryd.prog 8 [.sl none l.length (l.flatMap encB), .sl none m.length (m.flatMap encB), .sl none n.length (n.flatMap encB)] H (.bool true) := by
  have b1 := built_take l 9 hb (by omega)
  have b2 := built_take m 9 hc (by omega)
  have b3 := built_take n 9 hd (by omega)
  have z1 := blt12 l 9
  have z2 := blt12 m 9
  have z3 := blt12 n 9
  generalize bltF (l.take 9) = f at *
  generalize bltF (m.take 9) = g at *
  generalize bltF (n.take 9) = h at *
  have n1 := z1.nodes
  have n2 := z2.nodes
  have n3 := z3.nodes
  have d1 := z1.depth
  have d2 := z2.depth
  have d3 := z3.depth
  have mf : f.Mid := ⟨z1.nice, by omega, by omega⟩
  have mg : g.Mid := ⟨z2.nice, by omega, by omega⟩
  have mh : h.Mid := ⟨z3.nice, by omega, by omega⟩
  have mnf : (Fm.f1 3 f).Mid := ⟨nice_1 z1.nice, by simp only [Fm.nodes]; omega, by simp only [Fm.depth]; omega⟩
  have mng : (Fm.f1 3 g).Mid := ⟨nice_1 z2.nice, by simp only [Fm.nodes]; omega, by simp only [Fm.depth]; omega⟩
  have mnnf : (Fm.f1 3 (.f1 3 f)).Mid := ⟨nice_1 mnf.nice, by simp only [Fm.nodes]; omega, by simp only [Fm.depth]; omega⟩
  have m2 : ∀ a b : Fm, ∀ k, (k = 4 ∨ k = 5 ∨ k = 6 ∨ k = 7) → a.Nice → b.Nice → a.nodes ≤ 60 → b.nodes ≤ 60 → a.depth ≤ 20 → b.depth ≤ 20 → (Fm.f2 k a b).Mid := fun a b k hk ha hb p1 p2 p3 p4 => ⟨nice_2 ha hb k hk, by simp only [Fm.nodes]; omega, by simp only [Fm.depth]; omega⟩
  have mimp : (Fm.f2 6 f g).Mid := m2 f g 6 (by omega) z1.nice z2.nice (by omega) (by omega) (by omega) (by omega)
  have mimp' : (Fm.f2 6 g f).Mid := m2 g f 6 (by omega) z2.nice z1.nice (by omega) (by omega) (by omega) (by omega)
  have mand : (Fm.f2 4 f g).Mid := m2 f g 4 (by omega) z1.nice z2.nice (by omega) (by omega) (by omega) (by omega)
  have mor : (Fm.f2 5 f g).Mid := m2 f g 5 (by omega) z1.nice z2.nice (by omega) (by omega) (by omega) (by omega)
  have miff : (Fm.f2 7 f g).Mid := m2 f g 7 (by omega) z1.nice z2.nice (by omega) (by omega) (by omega) (by omega)
  have monf : (Fm.f2 5 (.f1 3 f) g).Mid := m2 _ _ 5 (by omega) mnf.nice z2.nice (by simp only [Fm.nodes]; omega) (by omega) (by simp only [Fm.depth]; omega) (by omega)
  have monn : (Fm.f2 5 (.f1 3 f) (.f1 3 g)).Mid := m2 _ _ 5 (by omega) mnf.nice mng.nice (by simp only [Fm.nodes]; omega) (by simp only [Fm.nodes]; omega) (by simp only [Fm.depth]; omega) (by simp only [Fm.depth]; omega)
  have mann : (Fm.f2 4 (.f1 3 f) (.f1 3 g)).Mid := m2 _ _ 4 (by omega) mnf.nice mng.nice (by simp only [Fm.nodes]; omega) (by simp only [Fm.nodes]; omega) (by simp only [Fm.depth]; omega) (by simp only [Fm.depth]; omega)
  have mnand : (Fm.f1 3 (.f2 4 f g)).Mid := ⟨nice_1 mand.nice, by simp only [Fm.nodes]; omega, by simp only [Fm.depth]; omega⟩
  have mnor : (Fm.f1 3 (.f2 5 f g)).Mid := ⟨nice_1 mor.nice, by simp only [Fm.nodes]; omega, by simp only [Fm.depth]; omega⟩
  have mii : (Fm.f2 4 (.f2 6 f g) (.f2 6 g f)).Mid := m2 _ _ 4 (by omega) mimp.nice mimp'.nice (by simp only [Fm.nodes]; omega) (by simp only [Fm.nodes]; omega) (by simp only [Fm.depth]; omega) (by simp only [Fm.depth]; omega)
  have i1 := is_c f f mf.gi mf.gi
  have i2 := is_c _ f mnnf.gi mf.gi
  have i3 := is_c _ _ mimp.gi monf.gi
  have i4 := is_c _ _ mnand.gi monn.gi
  have i5 := is_c _ _ mnor.gi mann.gi
  have i6 := is_c _ _ miff.gi mii.gi
  have i7 := is_c f g mf.gi mg.gi
  have i8 := is_c g f mg.gi mf.gi
  have i9 := is_c g h mg.gi mh.gi
  have i10 := is_c f h mf.gi mh.gi
  have i11 := is_c (putF 130 f h) (putF 130 g h) ⟨put_good z3 z1 (by omega), (put_nice z1.nice h z3.nice).inl⟩ ⟨put_good z3 z2 (by omega), (put_nice z2.nice h z3.nice).inl⟩
  rw [eqAll_of (fun _ => rfl)] at i1
  rw [eqAll_of (fun r => by simp [Fm.ev])] at i2
  rw [eqAll_of (fun r => by simp [Fm.ev])] at i3
  rw [eqAll_of (fun r => by simp [Fm.ev])] at i4
  rw [eqAll_of (fun r => by simp [Fm.ev])] at i5
  rw [eqAll_of (fun r => by simp only [Fm.ev]; cases f.ev r <;> cases g.ev r <;> rfl)] at i6
  rw [show eqAll g f = eqAll f g from b_eq (by rw [eqAll_iff, eqAll_iff]; exact ⟨fun e r => (e r).symm, fun e r => (e r).symm⟩)] at i8
  have t1 : eqAll f g = true → eqAll g h = true → eqAll f h = true := by
    rw [eqAll_iff, eqAll_iff, eqAll_iff]
    exact fun p q r => (p r).trans (q r)
  have t2 : eqAll f g = true → eqAll (putF 130 f h) (putF 130 g h) = true := by
    rw [eqAll_iff, eqAll_iff]
    intro p r
    rw [ev_put, ev_put, p r]
  have fo : ∀ H, VDet Tryd.prog 15 [.agg [.nils, .sx 1 (Fm.f2 7 f g).cells]] H (.tup [.bool (falV [] [.f2 7 f g]).isNone, .int .i64 0]) := fun H =>
    VDet.wk (fol_c [] [.f2 7 f g] (by simp [miff]) (by simp) H) ⟨wk_agg ⟨wk_nils, wk_row (by simp), trivial⟩, trivial⟩
  rw [show (falV [] [.f2 7 f g]).isNone = eqAll f g from b_eq (by
    rw [isNone_iff, eqAll_iff]
    refine forall_congr' fun r => ?_
    simp only [falR, List.all_cons, List.all_nil, Fm.ev]
    cases f.ev r <;> cases g.ev r <;> simp)] at fo
  have p1 : ∀ H, VDet Tryd.prog 13 [.agg h.cells, .str ⟨#[65]⟩, .agg f.cells] H (.agg (putF 130 f h).cells) := put_c 130 f h z3.nice.pr
  have p2 : ∀ H, VDet Tryd.prog 13 [.agg h.cells, .str ⟨#[65]⟩, .agg g.cells] H (.agg (putF 130 g h).cells) := put_c 130 g h z3.nice.pr
  have nf := not_c f
  have ng := not_c g
  have nnf := not_c (.f1 3 f)
  have nand := not_c (.f2 4 f g)
  have nor := not_c (.f2 5 f g)
  have j1 := jn2 6 f g
  have j2 := jn2 6 g f
  have j3 := jn2 4 f g
  have j4 := jn2 5 f g
  have j5 := jn2 7 f g
  have j6 := jn2 5 (.f1 3 f) g
  have j7 := jn2 5 (.f1 3 f) (.f1 3 g)
  have j8 := jn2 4 (.f1 3 f) (.f1 3 g)
  have j9 := jn2 4 (.f2 6 f g) (.f2 6 g f)
  generalize eqAll f g = e1 at *
  generalize eqAll g h = e2 at *
  generalize eqAll f h = e3 at *
  generalize eqAll (putF 130 f h) (putF 130 g h) = e4 at *
  generalize putF 130 f h = pf at *
  generalize putF 130 g h = pg at *
  clear n1 n2 n3 d1 d2 d3 mf mg mh mnf mng mnnf m2 mimp mimp' mand mor miff monf monn mann mnand mnor mii z1 z2 z3
  refine fn_det Tryd.E0 Tryd.mx Tryd.func8 (by kernel_rfl) rfl (Nat.le_of_ble_eq_true rfl) rfl fun hcl hbl => ?_
  (repeat' ((conv => whnf); (first | (refine IfN.id ?_; first | refine IfN.not ?_ | refine IfN.tt rfl ?_ | refine IfN.dT (by omega) ?_ | refine IfN.dec (fun _ => ?_) (fun _ => ?_) | refine IfN.tt (by assumption) ?_ | refine IfN.ff (by assumption) ?_ | (refine IfN.mk ?_ ?_ <;> intro _) | fail) | (refine SideN.mk ?_ ?_; · first | kernel_rfl | omega | exact List.cons_ne_nil _ _ | (simp; done) | (simp; omega) | exact trivial | assumption | fail) | refine NatN.at_ (by omega) ?_ | (refine CallN.id ?_; first | refine CallN.det _ (awake_c _) ?_ | refine CallN.det _ (fo _) ?_ | refine CallN.det _ (j5 _) ?_ | fail) | (refine CallD.id ?_; first | refine CallD.det _ (fun _ hq X => b1 _) ?_ | refine CallD.det _ (fun _ hq X => b2 _) ?_ | refine CallD.det _ (fun _ hq X => b3 _) ?_ | refine CallD.det _ (fun _ hq X => i1 _) ?_ | refine CallD.det _ (fun _ hq X => i2 _) ?_ | refine CallD.det _ (fun _ hq X => i3 _) ?_ | refine CallD.det _ (fun _ hq X => i4 _) ?_ | refine CallD.det _ (fun _ hq X => i5 _) ?_ | refine CallD.det _ (fun _ hq X => i6 _) ?_ | refine CallD.det _ (fun _ hq X => i7 _) ?_ | refine CallD.det _ (fun _ hq X => i8 _) ?_ | refine CallD.det _ (fun _ hq X => i9 _) ?_ | refine CallD.det _ (fun _ hq X => i10 _) ?_ | refine CallD.det _ (fun _ hq X => i11 _) ?_ | refine CallD.det _ (fun _ hq X => p1 _) ?_ | refine CallD.det _ (fun _ hq X => p2 _) ?_ | refine CallD.det _ (fun _ hq X => nf _) ?_ | refine CallD.det _ (fun _ hq X => ng _) ?_ | refine CallD.det _ (fun _ hq X => nnf _) ?_ | refine CallD.det _ (fun _ hq X => nand _) ?_ | refine CallD.det _ (fun _ hq X => nor _) ?_ | refine CallD.det _ (fun _ hq X => j1 _) ?_ | refine CallD.det _ (fun _ hq X => j2 _) ?_ | refine CallD.det _ (fun _ hq X => j3 _) ?_ | refine CallD.det _ (fun _ hq X => j4 _) ?_ | refine CallD.det _ (fun _ hq X => j5 _) ?_ | refine CallD.det _ (fun _ hq X => j6 _) ?_ | refine CallD.det _ (fun _ hq X => j7 _) ?_ | refine CallD.det _ (fun _ hq X => j8 _) ?_ | refine CallD.det _ (fun _ hq X => j9 _) ?_ | fail) | refine SubN.flat (lo := 0) (n := (min ((l.length : Nat) : Int) 9).toNat - 0) (fun _ => rfl) (by omega) ?_ | refine SubN.flat (lo := 0) (n := (min ((m.length : Nat) : Int) 9).toNat - 0) (fun _ => rfl) (by omega) ?_ | refine SubN.flat (lo := 0) (n := (min ((n.length : Nat) : Int) 9).toNat - 0) (fun _ => rfl) (by omega) ?_ | refine DrawN.mk' [] ?_ | fail))); all_goals (conv => whnf)
  all_goals
    refine EndN.det trivial (Wk.of_eq (congrArg AV.bool ?_))
    clear b1 b2 b3 i1 i2 i3 i4 i5 i6 i7 i8 i9 i10 i11 fo p1 p2 nf ng nnf nand nor j1 j2 j3 j4 j5 j6 j7 j8 j9
    simp_all

end Go.Proofs.YtekhodpmpjehaaaDoor
/-! text RZ10 -/
namespace Go.Proofs.YtekhodpmpjehaaaDoor
open Go.Vsi
set_option maxHeartbeats 4000000

/-! ### the law TruthCounts -/
theorem Fm.cb (n : Nat) (f : Fm) : belowL n f.cells := by simp [Fm.cells, belowL, below, Fm.sc_below]
def encT (F : Nat → Bool) (v : Nat) : List AV := [.bool (F v)]
theorem encT_below (F : Nat → Bool) (n : Nat) (l : List Nat) : belowL n (l.flatMap (encT F)) := belowL_flat _ fun x => by simp [encT, belowL, below]
theorem table_flat (F : Nat → Bool) : ∀ l : List Nat, (l.map fun v => AV.bool (F v)) = l.flatMap (encT F)
  | [] => rfl
  | v :: l => by simp [encT, table_flat F l]
theorem cntS_succ (F : Nat → Bool) (i : Nat) : cntS (i + 1) F = cntS i F + (F i).toNat := by
  rw [cntS_add]
  congr 1
theorem cnt_not (S : Nat) (F : Nat → Bool) : cntS S F + cntS S (fun v => !F v) = S := by
  induction S with
  | zero => rfl
  | succ n ih =>
    rw [cntS_succ, cntS_succ]
    cases F n <;> simp <;> omega
theorem cnt_or_and (S : Nat) (F G : Nat → Bool) : cntS S (fun v => F v || G v) + cntS S (fun v => F v && G v) = cntS S F + cntS S G := by
  induction S with
  | zero => rfl
  | succ n ih =>
    rw [cntS_succ, cntS_succ, cntS_succ, cntS_succ]
    cases F n <;> cases G n <;> simp <;> omega
theorem cnt_wide (f : Fm) (hf : f.In lets) : cntS 4096 (fun v => f.ev (vb lets v)) = 2 ^ (12 - (namesL [f]).length) * cntS (2 ^ (namesL [f]).length) (fun v => f.ev (vb (namesL [f]) v)) :=
  cP_wide (names_sub [f] (by simp [hf])) lets_nodup (fun r => f.ev r) (dep_ev (names_in (by simp)))
/-- four counts, of which that with the number k is under way -/
def bx (N : Nat → Nat) (k c : Nat) : List AV := match k with
  | 0 => [.int .i64 c, .int .i64 0, .int .i64 0, .int .i64 0]
  | 1 => [.int .i64 (N 0), .int .i64 c, .int .i64 0, .int .i64 0]
  | 2 => [.int .i64 (N 0), .int .i64 (N 1), .int .i64 c, .int .i64 0]
  | 3 => [.int .i64 (N 0), .int .i64 (N 1), .int .i64 (N 2), .int .i64 c]
  | _ => [.int .i64 (N 0), .int .i64 (N 1), .int .i64 (N 2), .int .i64 (N 3)]
theorem bx_below (N : Nat → Nat) (k c n : Nat) : belowL n (bx N k c) := by
  unfold bx
  split <;> simp [belowL, below]
theorem SegN.rngB {F : Nat → Bool} {S : Nat} {i : Int} {k : List AV → Prop} {b : Bool} (m : Nat) (hi : i = m) (hm : m < S) (hb : F m = b) (h : k [.bool b]) : SegN ((List.range S).flatMap (encT F)) (i.toNat * 1) k :=
  SegN.nth 0 m hi (by rw [List.length_range]; exact hm) (fun _ => rfl) (by
    have : (List.range S).getD m 0 = m := by simp [List.getD_eq_getElem?_getD, hm]
    rw [this]
    show k [.bool (F m)]
    rw [hb]
    exact h)
attribute [local irreducible] VW VCall VO bits cntS
theorem counts_c (l m : List Nat) (hl : l.length ≤ 9223372036854775807) (hb : ∀ i, i < l.length → l.getD i 0 ≤ 255) (hm : m.length ≤ 9223372036854775807) (hc : ∀ i, i < m.length → m.getD i 0 ≤ 255) (H : Heap) :
    VDet Tryd.prog 5 [.sl none l.length (l.flatMap encB), .sl none m.length (m.flatMap encB)] H (.bool true) := by
  have b1 := built_c l hl hb
  have b2 := built_c m hm hc
  have z1 := blt30 l
  have z2 := blt30 m
  generalize bltF l = f at *
  generalize bltF m = g at *
  generalize l.flatMap encB = lb at *
  generalize m.flatMap encB = mb at *
  have mf := z1.mid
  have mnf := z1.mid1
  have mor := z1.mid2 z2 5 (by omega)
  have mand := z1.mid2 z2 4 (by omega)
  have h12 := names_12 [f] (by simp [z1.nice.inl])
  have hok := namesL_ok [f] fun x hx => by simp only [List.mem_singleton] at hx; exact hx ▸ z1.nice.ok
  have c1 := count_c f mf.good h12
  have c2 := count_c (.f1 3 f) mnf.good h12
  have at1 : ∀ H, VDet Tryd.prog 18 [.sx 1 f.cells] H (.sl none (namesL [f]).length ((namesL [f]).flatMap encS)) := fun H => VDet.wk (atoms_c [f] (by simp [z1.nice.pr]) (by have := nodesL_mid [f] (by simp [mf]); simp only [List.length_singleton] at this; omega) (by simp) H) ⟨wk_row (by simp), trivial⟩
  have tb := table_c f mf.good (namesL [f]) hok h12 (names_in (by simp))
  have hok2 := lets_ok
  have tl := fun x (hx : x.Mid) => table_c x hx.good lets hok2 (by decide) hx.nice.inl
  have e1 : cntS (2 ^ (namesL [.f1 3 f]).length) (fun v => (Fm.f1 3 f).ev (vb (namesL [.f1 3 f]) v)) = cntS (2 ^ (namesL [f]).length) (fun v => !f.ev (vb (namesL [f]) v)) := rfl
  rw [e1, show namesL [.f1 3 f] = namesL [f] from rfl] at c2
  have e2 := cnt_not (2 ^ (namesL [f]).length) (fun v => f.ev (vb (namesL [f]) v))
  have e3 := cnt_wide f z1.nice.inl
  have e4 := cnt_or_and 4096 (fun v => f.ev (vb lets v)) (fun v => g.ev (vb lets v))
  have tl0 := tl f z1.mid
  have tl1 := tl g z2.mid
  have tl2 := tl _ mor
  have tl3 := tl _ mand
  have ll : ∀ x : Fm, ((List.range (2 ^ lets.length)).map fun v => AV.bool (x.ev (vb lets v))) = (List.range 4096).flatMap (encT fun v => x.ev (vb lets v)) := fun x => table_flat _ _
  rw [ll] at tl0 tl1 tl2 tl3
  rw [table_flat] at tb
  have h2l := two_le (namesL [f]) h12
  obtain ⟨N, n0, n1, n2, n3⟩ : ∃ N : Nat → Nat, N 0 = cntS 4096 (fun v => f.ev (vb lets v)) ∧ N 1 = cntS 4096 (fun v => g.ev (vb lets v)) ∧ N 2 = cntS 4096 (fun v => f.ev (vb lets v) || g.ev (vb lets v)) ∧ N 3 = cntS 4096 (fun v => f.ev (vb lets v) && g.ev (vb lets v)) :=
    ⟨fun i => match i with
      | 0 => cntS 4096 (fun v => f.ev (vb lets v))
      | 1 => cntS 4096 (fun v => g.ev (vb lets v))
      | 2 => cntS 4096 (fun v => f.ev (vb lets v) || g.ev (vb lets v))
      | _ => cntS 4096 (fun v => f.ev (vb lets v) && g.ev (vb lets v)), rfl, rfl, rfl, rfl⟩
  rw [← n0] at e3
  rw [← n0, ← n1, ← n2, ← n3] at e4
  have hN0 : N 0 ≤ 4096 := by rw [n0]; exact cntS_le _ _
  have hN1 : N 1 ≤ 4096 := by rw [n1]; exact cntS_le _ _
  have hN2 : N 2 ≤ 4096 := by rw [n2]; exact cntS_le _ _
  have hN3 : N 3 ≤ 4096 := by rw [n3]; exact cntS_le _ _
  generalize (namesL [f]).flatMap encS = nb at *
  generalize hF : (fun v => f.ev (vb (namesL [f]) v)) = F at *
  have hF2 : (fun v => !f.ev (vb (namesL [f]) v)) = fun v => !F v := by subst hF; rfl
  rw [hF2] at c2 e2
  have two : ∀ n : Nat, n ≤ 12 → EqN (IntKind.i64.wrap (1 * 2 ^ min ((n : Nat) : Int).toNat IntKind.i64.bits)) fun y => y = ((2 ^ n : Nat) : Int) := fun n hn => EqN.two n (by omega) rfl
  obtain ⟨_, w1, rfl⟩ := two _ h12
  have w2 : IntKind.i64.wrap ((cntS (2 ^ (namesL [f]).length) F : Nat) * 2 ^ min (((12 - (namesL [f]).length : Nat) : Nat) : Int).toNat IntKind.i64.bits) = ((N 0 : Nat) : Int) := by
    obtain ⟨y, e, h⟩ := EqN.shlN (k := fun y => y = ((N 0 : Nat) : Int)) (x := ((cntS (2 ^ (namesL [f]).length) F : Nat) : Int)) (y := ((12 - (namesL [f]).length : Nat) : Int)) (b := 64) _ _ rfl rfl rfl (by omega) (by rw [Nat.shiftLeft_eq, Nat.mul_comm, ← e3]; omega) (by rw [Nat.shiftLeft_eq, Nat.mul_comm, ← e3])
    exact e.trans h
  generalize 2 ^ (namesL [f]).length = S at *
  generalize (namesL [f]).length = k at *
  have w3 : IntKind.i64.wrap (12 - (k : Int)) = ((12 - k : Nat) : Int) := by rw [IntWalk.i64_in _ (by omega)]; omega
  have hA : cntS S F ≤ 4096 := by omega
  have hB : cntS S (fun v => !F v) ≤ 4096 := by omega
  generalize cntS S (fun v => !F v) = B at *
  have hs1 : ∀ i, cntS (i + 1) F = cntS i F + (F i).toNat := cntS_succ F
  have hs0 := cntS_nil F
  have hsl : ∀ i, cntS i F ≤ i := fun i => cntS_le i F
  have jn := jn2
  have j1 : ∀ H, VDet Tryd.prog 16 [.int .u8 3, .sx 1 f.cells] H (.agg (Fm.f1 3 f).cells) := fun H => VDet.wk (join1_c 3 f H) ⟨Wk.refl _, wk_sx _ _, trivial⟩
  have j2 := jn2 5 f g
  have j3 := jn2 4 f g
  generalize hM0 : (fun v => f.ev (vb lets v)) = F0 at *
  generalize hM1 : (fun v => g.ev (vb lets v)) = F1 at *
  have hM2 : (fun v => (Fm.f2 5 f g).ev (vb lets v)) = fun v => f.ev (vb lets v) || g.ev (vb lets v) := rfl
  have hM3 : (fun v => (Fm.f2 4 f g).ev (vb lets v)) = fun v => f.ev (vb lets v) && g.ev (vb lets v) := rfl
  rw [hM2] at tl2
  rw [hM3] at tl3
  clear hM2 hM3
  generalize (fun v => f.ev (vb lets v) || g.ev (vb lets v)) = F2 at *
  generalize (fun v => f.ev (vb lets v) && g.ev (vb lets v)) = F3 at *
  obtain ⟨T, hT⟩ : ∃ T, T = 4096 := ⟨_, rfl⟩
  have h4 : 2 ^ lets.length = T := by rw [hT]; rfl
  rw [h4] at tl0 tl1 tl2 tl3
  rw [← hT] at n0 n1 n2 n3
  have ra : ∀ G : Nat → Bool, (List.range 4096).flatMap (encT G) = (List.range T).flatMap (encT G) := fun G => by rw [hT]
  rw [ra] at tl0 tl1 tl2 tl3
  clear ra h4
  clear ll tl hM0 hM1 hF hF2 z1 z2 mf mnf mor mand hok hok2 e1
  refine fn_det Tryd.E0 Tryd.mx Tryd.func5 (by kernel_rfl) rfl (Nat.le_of_ble_eq_true rfl) rfl fun hcl hbl => ?_
  (repeat' ((conv => whnf); (first | (refine IfN.id ?_; first | refine IfN.not ?_ | refine IfN.tt rfl ?_ | fail) | (refine CallN.id ?_; first | refine CallN.det _ (awake_c _) ?_ | refine CallN.det _ (b1 _) ?_ | refine CallN.det _ (b2 _) ?_ | refine CallN.det _ (c1 _) ?_ | refine CallN.det _ (c2 _) ?_ | refine CallN.det _ (j1 _) ?_ | refine CallN.det _ (at1 _) ?_ | refine CallN.det _ (tb _) ?_ | fail) | refine DrawN.mk' [] ?_ | fail))); all_goals (conv => whnf)
  refine loop_R Tryd.E0 Tryd.mx (σ := Nat) (fun i => i ≤ S) (fun i => S - i) (fun i => [(16, .v (.int .i64 (cntS i F : Nat))), (57, .v (.int .i64 i))]) (fun _ => _) _ 0 rfl hcl [5, 6, 7, 8, 9, 10, 11, 12, 13, 14, 15, 55, 56] rfl (Nat.zero_le _) ⟨⟨_, rfl, Wk.of_eq (by rw [hs0]; rfl)⟩, ⟨_, rfl, Wk.refl _⟩, trivial⟩ rfl (fun _ _ => rfl) ?_
  intro i hi
  clear hbl
  have hsi := hs1 i
  have hli := hsl i
  by_cases hlt : i < S
  · cases hFi : F i with
    | true =>
      rw [hFi] at hsi
      simp only [Bool.toNat_true] at hsi
      (repeat' ((conv => whnf); (first | (refine IfN.id ?_; first | refine IfN.tt rfl ?_ | refine IfN.dT (by omega) ?_ | fail) | (refine EqN.id ?_; first | (refine EqN.addN _ _ (by first | with_reducible rfl | with_reducible exact cst1 | with_reducible exact cst0 | with_reducible exact cst2 | with_reducible exact cst3 | with_reducible exact cst4 | with_reducible exact cst5 | with_reducible exact cst6 | with_reducible exact cst7 | with_reducible exact cst8 | with_reducible exact cst14 | with_reducible exact cst15 | with_reducible exact cst25 | with_reducible exact cst30 | with_reducible exact cst31 | fail) (by first | with_reducible rfl | with_reducible exact cst1 | with_reducible exact cst0 | with_reducible exact cst2 | with_reducible exact cst3 | with_reducible exact cst4 | with_reducible exact cst5 | with_reducible exact cst6 | with_reducible exact cst7 | with_reducible exact cst8 | with_reducible exact cst14 | with_reducible exact cst15 | with_reducible exact cst25 | with_reducible exact cst30 | with_reducible exact cst31 | fail) ?_ ?_; · (repeat' (first | omega | refine And.intro ?_ ?_ | exact bnd_andl (by omega) | exact bnd_andr (by omega) | refine bnd_or ?_ ?_ | refine bnd_or31 ?_ ?_ | refine bnd_xor ?_ ?_ | refine bnd_xor31 ?_ ?_ | refine bnd_shr ?_ | refine bnd_shl ?_ ?_ | refine bnd_mod ?_ | refine bnd_andl ?_ | fail))) | fail) | (refine SideN.mk ?_ ?_; · first | kernel_rfl | omega | exact List.cons_ne_nil _ _ | (simp; done) | (simp; omega) | exact trivial | assumption | fail) | refine SegN.rngB i rfl hlt hFi ?_ | refine DrawN.mk' [] ?_ | fail))); all_goals (conv => whnf)
      (refine ⟨⟨i + 1, by omega, by omega, ?_, .inl ⟨rfl, rfl⟩, rfl, _, rfl, ?_⟩⟩; rotate_left 1; (first | exact .inl rfl | exact .inr ⟨by simp [belowRE, below, belowL, tr, encB_below, fms_below, Fm.sc_below, encS_below, encT_below, bx_below, Fm.cb], by simp [belowH, Blk.below, belowL, below, encB_below, fms_below, Fm.sc_below, encS_below, encT_below, bx_below, Fm.cb]⟩ | fail); (repeat' (first | exact trivial | refine ⟨⟨_, rfl, ?_⟩, ?_⟩ | fail)); all_goals try (first | exact Wk.refl _ | exact Wk.of_eq (congrArg (AV.int _) (by omega)) | fail))
    | false =>
      rw [hFi] at hsi
      simp only [Bool.toNat_false] at hsi
      (repeat' ((conv => whnf); (first | (refine IfN.id ?_; first | refine IfN.ff rfl ?_ | refine IfN.dT (by omega) ?_ | fail) | (refine EqN.id ?_; first | (refine EqN.addN _ _ (by first | with_reducible rfl | with_reducible exact cst1 | with_reducible exact cst0 | with_reducible exact cst2 | with_reducible exact cst3 | with_reducible exact cst4 | with_reducible exact cst5 | with_reducible exact cst6 | with_reducible exact cst7 | with_reducible exact cst8 | with_reducible exact cst14 | with_reducible exact cst15 | with_reducible exact cst25 | with_reducible exact cst30 | with_reducible exact cst31 | fail) (by first | with_reducible rfl | with_reducible exact cst1 | with_reducible exact cst0 | with_reducible exact cst2 | with_reducible exact cst3 | with_reducible exact cst4 | with_reducible exact cst5 | with_reducible exact cst6 | with_reducible exact cst7 | with_reducible exact cst8 | with_reducible exact cst14 | with_reducible exact cst15 | with_reducible exact cst25 | with_reducible exact cst30 | with_reducible exact cst31 | fail) ?_ ?_; · (repeat' (first | omega | refine And.intro ?_ ?_ | exact bnd_andl (by omega) | exact bnd_andr (by omega) | refine bnd_or ?_ ?_ | refine bnd_or31 ?_ ?_ | refine bnd_xor ?_ ?_ | refine bnd_xor31 ?_ ?_ | refine bnd_shr ?_ | refine bnd_shl ?_ ?_ | refine bnd_mod ?_ | refine bnd_andl ?_ | fail))) | fail) | (refine SideN.mk ?_ ?_; · first | kernel_rfl | omega | exact List.cons_ne_nil _ _ | (simp; done) | (simp; omega) | exact trivial | assumption | fail) | refine SegN.rngB i rfl hlt hFi ?_ | refine DrawN.mk' [] ?_ | fail))); all_goals (conv => whnf)
      (refine ⟨⟨i + 1, by omega, by omega, ?_, .inl ⟨rfl, rfl⟩, rfl, _, rfl, ?_⟩⟩; rotate_left 1; (first | exact .inl rfl | exact .inr ⟨by simp [belowRE, below, belowL, tr, encB_below, fms_below, Fm.sc_below, encS_below, encT_below, bx_below, Fm.cb], by simp [belowH, Blk.below, belowL, below, encB_below, fms_below, Fm.sc_below, encS_below, encT_below, bx_below, Fm.cb]⟩ | fail); (repeat' (first | exact trivial | refine ⟨⟨_, rfl, ?_⟩, ?_⟩ | fail)); all_goals try (first | exact Wk.refl _ | exact Wk.of_eq (congrArg (AV.int _) (by omega)) | fail))
  · obtain rfl : i = S := by omega
    (repeat' ((conv => whnf); (first | (refine IfN.id ?_; first | refine IfN.not ?_ | refine IfN.tt rfl ?_ | refine IfN.dT (by omega) ?_ | refine IfN.dF (by omega) ?_ | fail) | (refine EqN.id ?_; first | refine EqN.mk _ w1 ?_ | (refine EqN.addN _ _ (by first | with_reducible rfl | with_reducible exact cst1 | with_reducible exact cst0 | with_reducible exact cst2 | with_reducible exact cst3 | with_reducible exact cst4 | with_reducible exact cst5 | with_reducible exact cst6 | with_reducible exact cst7 | with_reducible exact cst8 | with_reducible exact cst14 | with_reducible exact cst15 | with_reducible exact cst25 | with_reducible exact cst30 | with_reducible exact cst31 | fail) (by first | with_reducible rfl | with_reducible exact cst1 | with_reducible exact cst0 | with_reducible exact cst2 | with_reducible exact cst3 | with_reducible exact cst4 | with_reducible exact cst5 | with_reducible exact cst6 | with_reducible exact cst7 | with_reducible exact cst8 | with_reducible exact cst14 | with_reducible exact cst15 | with_reducible exact cst25 | with_reducible exact cst30 | with_reducible exact cst31 | fail) ?_ ?_; · (repeat' (first | omega | refine And.intro ?_ ?_ | exact bnd_andl (by omega) | exact bnd_andr (by omega) | refine bnd_or ?_ ?_ | refine bnd_or31 ?_ ?_ | refine bnd_xor ?_ ?_ | refine bnd_xor31 ?_ ?_ | refine bnd_shr ?_ | refine bnd_shl ?_ ?_ | refine bnd_mod ?_ | refine bnd_andl ?_ | fail))) | fail) | (refine SideN.mk ?_ ?_; · first | kernel_rfl | omega | exact List.cons_ne_nil _ _ | (simp; done) | (simp; omega) | exact trivial | assumption | fail) | (refine CallD.id ?_; first | refine CallD.det _ (fun _ hq X => j2 _) ?_ | refine CallD.det _ (fun _ hq X => j3 _) ?_ | fail) | refine DrawN.mk' [] ?_ | fail))); all_goals (conv => whnf)
    refine loop_R Tryd.E0 Tryd.mx (σ := Nat) (fun q => q ≤ 4) (fun q => 4 - q) (fun q => [(113, .v (.int .i64 q))]) (fun q => [.box 28 f.cells, .box 28 g.cells, .box 49 (bx N q 0)]) _ 0 rfl hcl [7, 13, 19, 111, 112] rfl (Nat.zero_le _) ⟨⟨_, rfl, Wk.refl _⟩, trivial⟩ rfl (fun _ _ => rfl) ?_
    intro q hq
    have : q = 0 ∨ q = 1 ∨ q = 2 ∨ q = 3 ∨ q = 4 := by omega
    rcases this with rfl | rfl | rfl | rfl | rfl
    · (repeat' ((conv => whnf); (first | (refine IfN.id ?_; first | refine IfN.not ?_ | refine IfN.tt rfl ?_ | refine IfN.dT (by omega) ?_ | fail) | (refine SideN.mk ?_ ?_; · first | kernel_rfl | omega | exact List.cons_ne_nil _ _ | (simp; done) | (simp; omega) | exact trivial | assumption | fail) | (refine CallD.id ?_; first | refine CallD.det _ (fun _ hq X => letters_c _) ?_ | refine CallD.det _ (fun _ hq X => tl0 _) ?_ | fail) | refine SegN.mk _ (seg_rfl rfl) ?_ | refine DrawN.mk' [] ?_ | fail))); all_goals (conv => whnf)
      refine loop_R Tryd.E0 Tryd.mx (σ := Nat × Nat) (fun p => p.1 ≤ T ∧ p.2 = cntS p.1 F0) (fun p => T - p.1) (fun p => [(133, .v (.int .i64 p.1))]) (fun p => [.box 28 f.cells, .box 28 g.cells, .box 49 (bx N 0 p.2), .box 28 f.cells]) _ (0, 0) rfl hcl [7, 13, 19, 20, 111, 112, 113, 131, 132] rfl ⟨Nat.zero_le _, (cntS_nil _).symm⟩ ⟨⟨_, rfl, Wk.refl _⟩, trivial⟩ rfl (fun _ _ => rfl) ?_
      rintro ⟨j, c⟩ ⟨hj, hc⟩
      simp only at hj hc
      have hsj := cntS_succ F0 j
      have hlj := cntS_le j F0
      rw [← hc] at hsj hlj
      by_cases hlt : j < T
      · cases hFj : F0 j with
        | true =>
          rw [hFj] at hsj
          simp only [Bool.toNat_true] at hsj
          (repeat' ((conv => whnf); (first | (refine IfN.id ?_; first | refine IfN.tt rfl ?_ | refine IfN.dT (by omega) ?_ | fail) | (refine EqN.id ?_; first | (refine EqN.addN _ _ (by first | with_reducible rfl | with_reducible exact cst1 | with_reducible exact cst0 | with_reducible exact cst2 | with_reducible exact cst3 | with_reducible exact cst4 | with_reducible exact cst5 | with_reducible exact cst6 | with_reducible exact cst7 | with_reducible exact cst8 | with_reducible exact cst14 | with_reducible exact cst15 | with_reducible exact cst25 | with_reducible exact cst30 | with_reducible exact cst31 | fail) (by first | with_reducible rfl | with_reducible exact cst1 | with_reducible exact cst0 | with_reducible exact cst2 | with_reducible exact cst3 | with_reducible exact cst4 | with_reducible exact cst5 | with_reducible exact cst6 | with_reducible exact cst7 | with_reducible exact cst8 | with_reducible exact cst14 | with_reducible exact cst15 | with_reducible exact cst25 | with_reducible exact cst30 | with_reducible exact cst31 | fail) ?_ ?_; · (repeat' (first | omega | refine And.intro ?_ ?_ | exact bnd_andl (by omega) | exact bnd_andr (by omega) | refine bnd_or ?_ ?_ | refine bnd_or31 ?_ ?_ | refine bnd_xor ?_ ?_ | refine bnd_xor31 ?_ ?_ | refine bnd_shr ?_ | refine bnd_shl ?_ ?_ | refine bnd_mod ?_ | refine bnd_andl ?_ | fail))) | fail) | (refine SideN.mk ?_ ?_; · first | kernel_rfl | omega | exact List.cons_ne_nil _ _ | (simp; done) | (simp; omega) | exact trivial | assumption | fail) | refine SegN.rngB j rfl hlt hFj ?_ | refine OfsN.at_ (by omega) ?_ | refine DrawN.mk' [] ?_ | fail))); all_goals (conv => whnf)
          (refine ⟨⟨(j + 1, c + 1), ⟨by simp only; omega, by simp only; omega⟩, by omega, ?_, .inl ⟨rfl, rfl⟩, rfl, _, rfl, ?_⟩⟩; rotate_left 1; (first | exact .inl rfl | exact .inr ⟨by simp [belowRE, below, belowL, tr, encB_below, fms_below, Fm.sc_below, encS_below, encT_below, bx_below, Fm.cb], by simp [belowH, Blk.below, belowL, below, encB_below, fms_below, Fm.sc_below, encS_below, encT_below, bx_below, Fm.cb]⟩ | fail); (repeat' (first | exact trivial | refine ⟨⟨_, rfl, ?_⟩, ?_⟩ | fail)); all_goals try (first | exact Wk.refl _ | exact Wk.of_eq (congrArg (AV.int _) (by omega)) | fail))
        | false =>
          rw [hFj] at hsj
          simp only [Bool.toNat_false, Nat.add_zero] at hsj
          (repeat' ((conv => whnf); (first | (refine IfN.id ?_; first | refine IfN.ff rfl ?_ | refine IfN.dT (by omega) ?_ | fail) | (refine EqN.id ?_; first | (refine EqN.addN _ _ (by first | with_reducible rfl | with_reducible exact cst1 | with_reducible exact cst0 | with_reducible exact cst2 | with_reducible exact cst3 | with_reducible exact cst4 | with_reducible exact cst5 | with_reducible exact cst6 | with_reducible exact cst7 | with_reducible exact cst8 | with_reducible exact cst14 | with_reducible exact cst15 | with_reducible exact cst25 | with_reducible exact cst30 | with_reducible exact cst31 | fail) (by first | with_reducible rfl | with_reducible exact cst1 | with_reducible exact cst0 | with_reducible exact cst2 | with_reducible exact cst3 | with_reducible exact cst4 | with_reducible exact cst5 | with_reducible exact cst6 | with_reducible exact cst7 | with_reducible exact cst8 | with_reducible exact cst14 | with_reducible exact cst15 | with_reducible exact cst25 | with_reducible exact cst30 | with_reducible exact cst31 | fail) ?_ ?_; · (repeat' (first | omega | refine And.intro ?_ ?_ | exact bnd_andl (by omega) | exact bnd_andr (by omega) | refine bnd_or ?_ ?_ | refine bnd_or31 ?_ ?_ | refine bnd_xor ?_ ?_ | refine bnd_xor31 ?_ ?_ | refine bnd_shr ?_ | refine bnd_shl ?_ ?_ | refine bnd_mod ?_ | refine bnd_andl ?_ | fail))) | fail) | (refine SideN.mk ?_ ?_; · first | kernel_rfl | omega | exact List.cons_ne_nil _ _ | (simp; done) | (simp; omega) | exact trivial | assumption | fail) | refine SegN.rngB j rfl hlt hFj ?_ | refine DrawN.mk' [] ?_ | fail))); all_goals (conv => whnf)
          (refine ⟨⟨(j + 1, c), ⟨by simp only; omega, by simp only; omega⟩, by omega, ?_, .inl ⟨rfl, rfl⟩, rfl, _, rfl, ?_⟩⟩; rotate_left 1; (first | exact .inl rfl | exact .inr ⟨by simp [belowRE, below, belowL, tr, encB_below, fms_below, Fm.sc_below, encS_below, encT_below, bx_below, Fm.cb], by simp [belowH, Blk.below, belowL, below, encB_below, fms_below, Fm.sc_below, encS_below, encT_below, bx_below, Fm.cb]⟩ | fail); (repeat' (first | exact trivial | refine ⟨⟨_, rfl, ?_⟩, ?_⟩ | fail)); all_goals try (first | exact Wk.refl _ | exact Wk.of_eq (congrArg (AV.int _) (by omega)) | fail))
      · have hjT : j = T := by omega
        subst hjT
        rw [← n0] at hc
        subst hc
        (repeat' ((conv => whnf); (first | (refine IfN.id ?_; first | refine IfN.dF (by omega) ?_ | fail) | (refine EqN.id ?_; first | (refine EqN.addN _ _ (by first | with_reducible rfl | with_reducible exact cst1 | with_reducible exact cst0 | with_reducible exact cst2 | with_reducible exact cst3 | with_reducible exact cst4 | with_reducible exact cst5 | with_reducible exact cst6 | with_reducible exact cst7 | with_reducible exact cst8 | with_reducible exact cst14 | with_reducible exact cst15 | with_reducible exact cst25 | with_reducible exact cst30 | with_reducible exact cst31 | fail) (by first | with_reducible rfl | with_reducible exact cst1 | with_reducible exact cst0 | with_reducible exact cst2 | with_reducible exact cst3 | with_reducible exact cst4 | with_reducible exact cst5 | with_reducible exact cst6 | with_reducible exact cst7 | with_reducible exact cst8 | with_reducible exact cst14 | with_reducible exact cst15 | with_reducible exact cst25 | with_reducible exact cst30 | with_reducible exact cst31 | fail) ?_ ?_; · (repeat' (first | omega | refine And.intro ?_ ?_ | exact bnd_andl (by omega) | exact bnd_andr (by omega) | refine bnd_or ?_ ?_ | refine bnd_or31 ?_ ?_ | refine bnd_xor ?_ ?_ | refine bnd_xor31 ?_ ?_ | refine bnd_shr ?_ | refine bnd_shl ?_ ?_ | refine bnd_mod ?_ | refine bnd_andl ?_ | fail))) | fail) | refine DrawN.mk' [] ?_ | fail))); all_goals (conv => whnf)
        (refine ⟨⟨1, by omega, by omega, ?_, .inr ?_, rfl, _, rfl, ?_⟩⟩; rotate_left 2; (first | exact .inl rfl | exact .inr ⟨by simp [belowRE, below, belowL, tr, encB_below, fms_below, Fm.sc_below, encS_below, encT_below, bx_below, Fm.cb], by simp [belowH, Blk.below, belowL, below, encB_below, fms_below, Fm.sc_below, encS_below, encT_below, bx_below, Fm.cb]⟩ | fail); all_goals (repeat' (first | exact trivial | refine ⟨⟨_, rfl, ?_⟩, ?_⟩ | fail)); all_goals try (first | exact Wk.refl _ | exact Wk.of_eq (congrArg (AV.int _) (by omega)) | fail))
    · (repeat' ((conv => whnf); (first | (refine IfN.id ?_; first | refine IfN.not ?_ | refine IfN.tt rfl ?_ | refine IfN.dT (by omega) ?_ | fail) | (refine SideN.mk ?_ ?_; · first | kernel_rfl | omega | exact List.cons_ne_nil _ _ | (simp; done) | (simp; omega) | exact trivial | assumption | fail) | (refine CallD.id ?_; first | refine CallD.det _ (fun _ hq X => letters_c _) ?_ | refine CallD.det _ (fun _ hq X => tl1 _) ?_ | fail) | refine SegN.mk _ (seg_rfl rfl) ?_ | refine DrawN.mk' [] ?_ | fail))); all_goals (conv => whnf)
      refine loop_R Tryd.E0 Tryd.mx (σ := Nat × Nat) (fun p => p.1 ≤ T ∧ p.2 = cntS p.1 F1) (fun p => T - p.1) (fun p => [(133, .v (.int .i64 p.1))]) (fun p => [.box 28 f.cells, .box 28 g.cells, .box 49 (bx N 1 p.2), .box 28 g.cells]) _ (0, 0) rfl hcl [7, 13, 19, 20, 111, 112, 113, 131, 132] rfl ⟨Nat.zero_le _, (cntS_nil _).symm⟩ ⟨⟨_, rfl, Wk.refl _⟩, trivial⟩ rfl (fun _ _ => rfl) ?_
      rintro ⟨j, c⟩ ⟨hj, hc⟩
      simp only at hj hc
      have hsj := cntS_succ F1 j
      have hlj := cntS_le j F1
      rw [← hc] at hsj hlj
      by_cases hlt : j < T
      · cases hFj : F1 j with
        | true =>
          rw [hFj] at hsj
          simp only [Bool.toNat_true] at hsj
          (repeat' ((conv => whnf); (first | (refine IfN.id ?_; first | refine IfN.tt rfl ?_ | refine IfN.dT (by omega) ?_ | fail) | (refine EqN.id ?_; first | (refine EqN.addN _ _ (by first | with_reducible rfl | with_reducible exact cst1 | with_reducible exact cst0 | with_reducible exact cst2 | with_reducible exact cst3 | with_reducible exact cst4 | with_reducible exact cst5 | with_reducible exact cst6 | with_reducible exact cst7 | with_reducible exact cst8 | with_reducible exact cst14 | with_reducible exact cst15 | with_reducible exact cst25 | with_reducible exact cst30 | with_reducible exact cst31 | fail) (by first | with_reducible rfl | with_reducible exact cst1 | with_reducible exact cst0 | with_reducible exact cst2 | with_reducible exact cst3 | with_reducible exact cst4 | with_reducible exact cst5 | with_reducible exact cst6 | with_reducible exact cst7 | with_reducible exact cst8 | with_reducible exact cst14 | with_reducible exact cst15 | with_reducible exact cst25 | with_reducible exact cst30 | with_reducible exact cst31 | fail) ?_ ?_; · (repeat' (first | omega | refine And.intro ?_ ?_ | exact bnd_andl (by omega) | exact bnd_andr (by omega) | refine bnd_or ?_ ?_ | refine bnd_or31 ?_ ?_ | refine bnd_xor ?_ ?_ | refine bnd_xor31 ?_ ?_ | refine bnd_shr ?_ | refine bnd_shl ?_ ?_ | refine bnd_mod ?_ | refine bnd_andl ?_ | fail))) | fail) | (refine SideN.mk ?_ ?_; · first | kernel_rfl | omega | exact List.cons_ne_nil _ _ | (simp; done) | (simp; omega) | exact trivial | assumption | fail) | refine SegN.rngB j rfl hlt hFj ?_ | refine OfsN.at_ (by omega) ?_ | refine DrawN.mk' [] ?_ | fail))); all_goals (conv => whnf)
          (refine ⟨⟨(j + 1, c + 1), ⟨by simp only; omega, by simp only; omega⟩, by omega, ?_, .inl ⟨rfl, rfl⟩, rfl, _, rfl, ?_⟩⟩; rotate_left 1; (first | exact .inl rfl | exact .inr ⟨by simp [belowRE, below, belowL, tr, encB_below, fms_below, Fm.sc_below, encS_below, encT_below, bx_below, Fm.cb], by simp [belowH, Blk.below, belowL, below, encB_below, fms_below, Fm.sc_below, encS_below, encT_below, bx_below, Fm.cb]⟩ | fail); (repeat' (first | exact trivial | refine ⟨⟨_, rfl, ?_⟩, ?_⟩ | fail)); all_goals try (first | exact Wk.refl _ | exact Wk.of_eq (congrArg (AV.int _) (by omega)) | fail))
        | false =>
          rw [hFj] at hsj
          simp only [Bool.toNat_false, Nat.add_zero] at hsj
          (repeat' ((conv => whnf); (first | (refine IfN.id ?_; first | refine IfN.ff rfl ?_ | refine IfN.dT (by omega) ?_ | fail) | (refine EqN.id ?_; first | (refine EqN.addN _ _ (by first | with_reducible rfl | with_reducible exact cst1 | with_reducible exact cst0 | with_reducible exact cst2 | with_reducible exact cst3 | with_reducible exact cst4 | with_reducible exact cst5 | with_reducible exact cst6 | with_reducible exact cst7 | with_reducible exact cst8 | with_reducible exact cst14 | with_reducible exact cst15 | with_reducible exact cst25 | with_reducible exact cst30 | with_reducible exact cst31 | fail) (by first | with_reducible rfl | with_reducible exact cst1 | with_reducible exact cst0 | with_reducible exact cst2 | with_reducible exact cst3 | with_reducible exact cst4 | with_reducible exact cst5 | with_reducible exact cst6 | with_reducible exact cst7 | with_reducible exact cst8 | with_reducible exact cst14 | with_reducible exact cst15 | with_reducible exact cst25 | with_reducible exact cst30 | with_reducible exact cst31 | fail) ?_ ?_; · (repeat' (first | omega | refine And.intro ?_ ?_ | exact bnd_andl (by omega) | exact bnd_andr (by omega) | refine bnd_or ?_ ?_ | refine bnd_or31 ?_ ?_ | refine bnd_xor ?_ ?_ | refine bnd_xor31 ?_ ?_ | refine bnd_shr ?_ | refine bnd_shl ?_ ?_ | refine bnd_mod ?_ | refine bnd_andl ?_ | fail))) | fail) | (refine SideN.mk ?_ ?_; · first | kernel_rfl | omega | exact List.cons_ne_nil _ _ | (simp; done) | (simp; omega) | exact trivial | assumption | fail) | refine SegN.rngB j rfl hlt hFj ?_ | refine DrawN.mk' [] ?_ | fail))); all_goals (conv => whnf)
          (refine ⟨⟨(j + 1, c), ⟨by simp only; omega, by simp only; omega⟩, by omega, ?_, .inl ⟨rfl, rfl⟩, rfl, _, rfl, ?_⟩⟩; rotate_left 1; (first | exact .inl rfl | exact .inr ⟨by simp [belowRE, below, belowL, tr, encB_below, fms_below, Fm.sc_below, encS_below, encT_below, bx_below, Fm.cb], by simp [belowH, Blk.below, belowL, below, encB_below, fms_below, Fm.sc_below, encS_below, encT_below, bx_below, Fm.cb]⟩ | fail); (repeat' (first | exact trivial | refine ⟨⟨_, rfl, ?_⟩, ?_⟩ | fail)); all_goals try (first | exact Wk.refl _ | exact Wk.of_eq (congrArg (AV.int _) (by omega)) | fail))
      · have hjT : j = T := by omega
        subst hjT
        rw [← n1] at hc
        subst hc
        (repeat' ((conv => whnf); (first | (refine IfN.id ?_; first | refine IfN.dF (by omega) ?_ | fail) | (refine EqN.id ?_; first | (refine EqN.addN _ _ (by first | with_reducible rfl | with_reducible exact cst1 | with_reducible exact cst0 | with_reducible exact cst2 | with_reducible exact cst3 | with_reducible exact cst4 | with_reducible exact cst5 | with_reducible exact cst6 | with_reducible exact cst7 | with_reducible exact cst8 | with_reducible exact cst14 | with_reducible exact cst15 | with_reducible exact cst25 | with_reducible exact cst30 | with_reducible exact cst31 | fail) (by first | with_reducible rfl | with_reducible exact cst1 | with_reducible exact cst0 | with_reducible exact cst2 | with_reducible exact cst3 | with_reducible exact cst4 | with_reducible exact cst5 | with_reducible exact cst6 | with_reducible exact cst7 | with_reducible exact cst8 | with_reducible exact cst14 | with_reducible exact cst15 | with_reducible exact cst25 | with_reducible exact cst30 | with_reducible exact cst31 | fail) ?_ ?_; · (repeat' (first | omega | refine And.intro ?_ ?_ | exact bnd_andl (by omega) | exact bnd_andr (by omega) | refine bnd_or ?_ ?_ | refine bnd_or31 ?_ ?_ | refine bnd_xor ?_ ?_ | refine bnd_xor31 ?_ ?_ | refine bnd_shr ?_ | refine bnd_shl ?_ ?_ | refine bnd_mod ?_ | refine bnd_andl ?_ | fail))) | fail) | refine DrawN.mk' [] ?_ | fail))); all_goals (conv => whnf)
        (refine ⟨⟨2, by omega, by omega, ?_, .inr ?_, rfl, _, rfl, ?_⟩⟩; rotate_left 2; (first | exact .inl rfl | exact .inr ⟨by simp [belowRE, below, belowL, tr, encB_below, fms_below, Fm.sc_below, encS_below, encT_below, bx_below, Fm.cb], by simp [belowH, Blk.below, belowL, below, encB_below, fms_below, Fm.sc_below, encS_below, encT_below, bx_below, Fm.cb]⟩ | fail); all_goals (repeat' (first | exact trivial | refine ⟨⟨_, rfl, ?_⟩, ?_⟩ | fail)); all_goals try (first | exact Wk.refl _ | exact Wk.of_eq (congrArg (AV.int _) (by omega)) | fail))
    · (repeat' ((conv => whnf); (first | (refine IfN.id ?_; first | refine IfN.not ?_ | refine IfN.tt rfl ?_ | refine IfN.dT (by omega) ?_ | fail) | (refine SideN.mk ?_ ?_; · first | kernel_rfl | omega | exact List.cons_ne_nil _ _ | (simp; done) | (simp; omega) | exact trivial | assumption | fail) | (refine CallD.id ?_; first | refine CallD.det _ (fun _ hq X => letters_c _) ?_ | refine CallD.det _ (fun _ hq X => tl2 _) ?_ | fail) | refine SegN.mk _ (seg_rfl rfl) ?_ | refine DrawN.mk' [] ?_ | fail))); all_goals (conv => whnf)
      refine loop_R Tryd.E0 Tryd.mx (σ := Nat × Nat) (fun p => p.1 ≤ T ∧ p.2 = cntS p.1 F2) (fun p => T - p.1) (fun p => [(133, .v (.int .i64 p.1))]) (fun p => [.box 28 f.cells, .box 28 g.cells, .box 49 (bx N 2 p.2), .box 28 (Fm.f2 5 f g).cells]) _ (0, 0) rfl hcl [7, 13, 19, 20, 111, 112, 113, 131, 132] rfl ⟨Nat.zero_le _, (cntS_nil _).symm⟩ ⟨⟨_, rfl, Wk.refl _⟩, trivial⟩ rfl (fun _ _ => rfl) ?_
      rintro ⟨j, c⟩ ⟨hj, hc⟩
      simp only at hj hc
      have hsj := cntS_succ F2 j
      have hlj := cntS_le j F2
      rw [← hc] at hsj hlj
      by_cases hlt : j < T
      · cases hFj : F2 j with
        | true =>
          rw [hFj] at hsj
          simp only [Bool.toNat_true] at hsj
          (repeat' ((conv => whnf); (first | (refine IfN.id ?_; first | refine IfN.tt rfl ?_ | refine IfN.dT (by omega) ?_ | fail) | (refine EqN.id ?_; first | (refine EqN.addN _ _ (by first | with_reducible rfl | with_reducible exact cst1 | with_reducible exact cst0 | with_reducible exact cst2 | with_reducible exact cst3 | with_reducible exact cst4 | with_reducible exact cst5 | with_reducible exact cst6 | with_reducible exact cst7 | with_reducible exact cst8 | with_reducible exact cst14 | with_reducible exact cst15 | with_reducible exact cst25 | with_reducible exact cst30 | with_reducible exact cst31 | fail) (by first | with_reducible rfl | with_reducible exact cst1 | with_reducible exact cst0 | with_reducible exact cst2 | with_reducible exact cst3 | with_reducible exact cst4 | with_reducible exact cst5 | with_reducible exact cst6 | with_reducible exact cst7 | with_reducible exact cst8 | with_reducible exact cst14 | with_reducible exact cst15 | with_reducible exact cst25 | with_reducible exact cst30 | with_reducible exact cst31 | fail) ?_ ?_; · (repeat' (first | omega | refine And.intro ?_ ?_ | exact bnd_andl (by omega) | exact bnd_andr (by omega) | refine bnd_or ?_ ?_ | refine bnd_or31 ?_ ?_ | refine bnd_xor ?_ ?_ | refine bnd_xor31 ?_ ?_ | refine bnd_shr ?_ | refine bnd_shl ?_ ?_ | refine bnd_mod ?_ | refine bnd_andl ?_ | fail))) | fail) | (refine SideN.mk ?_ ?_; · first | kernel_rfl | omega | exact List.cons_ne_nil _ _ | (simp; done) | (simp; omega) | exact trivial | assumption | fail) | refine SegN.rngB j rfl hlt hFj ?_ | refine OfsN.at_ (by omega) ?_ | refine DrawN.mk' [] ?_ | fail))); all_goals (conv => whnf)
          (refine ⟨⟨(j + 1, c + 1), ⟨by simp only; omega, by simp only; omega⟩, by omega, ?_, .inl ⟨rfl, rfl⟩, rfl, _, rfl, ?_⟩⟩; rotate_left 1; (first | exact .inl rfl | exact .inr ⟨by simp [belowRE, below, belowL, tr, encB_below, fms_below, Fm.sc_below, encS_below, encT_below, bx_below, Fm.cb], by simp [belowH, Blk.below, belowL, below, encB_below, fms_below, Fm.sc_below, encS_below, encT_below, bx_below, Fm.cb]⟩ | fail); (repeat' (first | exact trivial | refine ⟨⟨_, rfl, ?_⟩, ?_⟩ | fail)); all_goals try (first | exact Wk.refl _ | exact Wk.of_eq (congrArg (AV.int _) (by omega)) | fail))
        | false =>
          rw [hFj] at hsj
          simp only [Bool.toNat_false, Nat.add_zero] at hsj
          (repeat' ((conv => whnf); (first | (refine IfN.id ?_; first | refine IfN.ff rfl ?_ | refine IfN.dT (by omega) ?_ | fail) | (refine EqN.id ?_; first | (refine EqN.addN _ _ (by first | with_reducible rfl | with_reducible exact cst1 | with_reducible exact cst0 | with_reducible exact cst2 | with_reducible exact cst3 | with_reducible exact cst4 | with_reducible exact cst5 | with_reducible exact cst6 | with_reducible exact cst7 | with_reducible exact cst8 | with_reducible exact cst14 | with_reducible exact cst15 | with_reducible exact cst25 | with_reducible exact cst30 | with_reducible exact cst31 | fail) (by first | with_reducible rfl | with_reducible exact cst1 | with_reducible exact cst0 | with_reducible exact cst2 | with_reducible exact cst3 | with_reducible exact cst4 | with_reducible exact cst5 | with_reducible exact cst6 | with_reducible exact cst7 | with_reducible exact cst8 | with_reducible exact cst14 | with_reducible exact cst15 | with_reducible exact cst25 | with_reducible exact cst30 | with_reducible exact cst31 | fail) ?_ ?_; · (repeat' (first | omega | refine And.intro ?_ ?_ | exact bnd_andl (by omega) | exact bnd_andr (by omega) | refine bnd_or ?_ ?_ | refine bnd_or31 ?_ ?_ | refine bnd_xor ?_ ?_ | refine bnd_xor31 ?_ ?_ | refine bnd_shr ?_ | refine bnd_shl ?_ ?_ | refine bnd_mod ?_ | refine bnd_andl ?_ | fail))) | fail) | (refine SideN.mk ?_ ?_; · first | kernel_rfl | omega | exact List.cons_ne_nil _ _ | (simp; done) | (simp; omega) | exact trivial | assumption | fail) | refine SegN.rngB j rfl hlt hFj ?_ | refine DrawN.mk' [] ?_ | fail))); all_goals (conv => whnf)
          (refine ⟨⟨(j + 1, c), ⟨by simp only; omega, by simp only; omega⟩, by omega, ?_, .inl ⟨rfl, rfl⟩, rfl, _, rfl, ?_⟩⟩; rotate_left 1; (first | exact .inl rfl | exact .inr ⟨by simp [belowRE, below, belowL, tr, encB_below, fms_below, Fm.sc_below, encS_below, encT_below, bx_below, Fm.cb], by simp [belowH, Blk.below, belowL, below, encB_below, fms_below, Fm.sc_below, encS_below, encT_below, bx_below, Fm.cb]⟩ | fail); (repeat' (first | exact trivial | refine ⟨⟨_, rfl, ?_⟩, ?_⟩ | fail)); all_goals try (first | exact Wk.refl _ | exact Wk.of_eq (congrArg (AV.int _) (by omega)) | fail))
      · have hjT : j = T := by omega
        subst hjT
        rw [← n2] at hc
        subst hc
        (repeat' ((conv => whnf); (first | (refine IfN.id ?_; first | refine IfN.dF (by omega) ?_ | fail) | (refine EqN.id ?_; first | (refine EqN.addN _ _ (by first | with_reducible rfl | with_reducible exact cst1 | with_reducible exact cst0 | with_reducible exact cst2 | with_reducible exact cst3 | with_reducible exact cst4 | with_reducible exact cst5 | with_reducible exact cst6 | with_reducible exact cst7 | with_reducible exact cst8 | with_reducible exact cst14 | with_reducible exact cst15 | with_reducible exact cst25 | with_reducible exact cst30 | with_reducible exact cst31 | fail) (by first | with_reducible rfl | with_reducible exact cst1 | with_reducible exact cst0 | with_reducible exact cst2 | with_reducible exact cst3 | with_reducible exact cst4 | with_reducible exact cst5 | with_reducible exact cst6 | with_reducible exact cst7 | with_reducible exact cst8 | with_reducible exact cst14 | with_reducible exact cst15 | with_reducible exact cst25 | with_reducible exact cst30 | with_reducible exact cst31 | fail) ?_ ?_; · (repeat' (first | omega | refine And.intro ?_ ?_ | exact bnd_andl (by omega) | exact bnd_andr (by omega) | refine bnd_or ?_ ?_ | refine bnd_or31 ?_ ?_ | refine bnd_xor ?_ ?_ | refine bnd_xor31 ?_ ?_ | refine bnd_shr ?_ | refine bnd_shl ?_ ?_ | refine bnd_mod ?_ | refine bnd_andl ?_ | fail))) | fail) | refine DrawN.mk' [] ?_ | fail))); all_goals (conv => whnf)
        (refine ⟨⟨3, by omega, by omega, ?_, .inr ?_, rfl, _, rfl, ?_⟩⟩; rotate_left 2; (first | exact .inl rfl | exact .inr ⟨by simp [belowRE, below, belowL, tr, encB_below, fms_below, Fm.sc_below, encS_below, encT_below, bx_below, Fm.cb], by simp [belowH, Blk.below, belowL, below, encB_below, fms_below, Fm.sc_below, encS_below, encT_below, bx_below, Fm.cb]⟩ | fail); all_goals (repeat' (first | exact trivial | refine ⟨⟨_, rfl, ?_⟩, ?_⟩ | fail)); all_goals try (first | exact Wk.refl _ | exact Wk.of_eq (congrArg (AV.int _) (by omega)) | fail))
    · (repeat' ((conv => whnf); (first | (refine IfN.id ?_; first | refine IfN.not ?_ | refine IfN.tt rfl ?_ | refine IfN.dT (by omega) ?_ | fail) | (refine SideN.mk ?_ ?_; · first | kernel_rfl | omega | exact List.cons_ne_nil _ _ | (simp; done) | (simp; omega) | exact trivial | assumption | fail) | (refine CallD.id ?_; first | refine CallD.det _ (fun _ hq X => letters_c _) ?_ | refine CallD.det _ (fun _ hq X => tl3 _) ?_ | fail) | refine SegN.mk _ (seg_rfl rfl) ?_ | refine DrawN.mk' [] ?_ | fail))); all_goals (conv => whnf)
      refine loop_R Tryd.E0 Tryd.mx (σ := Nat × Nat) (fun p => p.1 ≤ T ∧ p.2 = cntS p.1 F3) (fun p => T - p.1) (fun p => [(133, .v (.int .i64 p.1))]) (fun p => [.box 28 f.cells, .box 28 g.cells, .box 49 (bx N 3 p.2), .box 28 (Fm.f2 4 f g).cells]) _ (0, 0) rfl hcl [7, 13, 19, 20, 111, 112, 113, 131, 132] rfl ⟨Nat.zero_le _, (cntS_nil _).symm⟩ ⟨⟨_, rfl, Wk.refl _⟩, trivial⟩ rfl (fun _ _ => rfl) ?_
      rintro ⟨j, c⟩ ⟨hj, hc⟩
      simp only at hj hc
      have hsj := cntS_succ F3 j
      have hlj := cntS_le j F3
      rw [← hc] at hsj hlj
      by_cases hlt : j < T
      · cases hFj : F3 j with
        | true =>
          rw [hFj] at hsj
          simp only [Bool.toNat_true] at hsj
          (repeat' ((conv => whnf); (first | (refine IfN.id ?_; first | refine IfN.tt rfl ?_ | refine IfN.dT (by omega) ?_ | fail) | (refine EqN.id ?_; first | (refine EqN.addN _ _ (by first | with_reducible rfl | with_reducible exact cst1 | with_reducible exact cst0 | with_reducible exact cst2 | with_reducible exact cst3 | with_reducible exact cst4 | with_reducible exact cst5 | with_reducible exact cst6 | with_reducible exact cst7 | with_reducible exact cst8 | with_reducible exact cst14 | with_reducible exact cst15 | with_reducible exact cst25 | with_reducible exact cst30 | with_reducible exact cst31 | fail) (by first | with_reducible rfl | with_reducible exact cst1 | with_reducible exact cst0 | with_reducible exact cst2 | with_reducible exact cst3 | with_reducible exact cst4 | with_reducible exact cst5 | with_reducible exact cst6 | with_reducible exact cst7 | with_reducible exact cst8 | with_reducible exact cst14 | with_reducible exact cst15 | with_reducible exact cst25 | with_reducible exact cst30 | with_reducible exact cst31 | fail) ?_ ?_; · (repeat' (first | omega | refine And.intro ?_ ?_ | exact bnd_andl (by omega) | exact bnd_andr (by omega) | refine bnd_or ?_ ?_ | refine bnd_or31 ?_ ?_ | refine bnd_xor ?_ ?_ | refine bnd_xor31 ?_ ?_ | refine bnd_shr ?_ | refine bnd_shl ?_ ?_ | refine bnd_mod ?_ | refine bnd_andl ?_ | fail))) | fail) | (refine SideN.mk ?_ ?_; · first | kernel_rfl | omega | exact List.cons_ne_nil _ _ | (simp; done) | (simp; omega) | exact trivial | assumption | fail) | refine SegN.rngB j rfl hlt hFj ?_ | refine OfsN.at_ (by omega) ?_ | refine DrawN.mk' [] ?_ | fail))); all_goals (conv => whnf)
          (refine ⟨⟨(j + 1, c + 1), ⟨by simp only; omega, by simp only; omega⟩, by omega, ?_, .inl ⟨rfl, rfl⟩, rfl, _, rfl, ?_⟩⟩; rotate_left 1; (first | exact .inl rfl | exact .inr ⟨by simp [belowRE, below, belowL, tr, encB_below, fms_below, Fm.sc_below, encS_below, encT_below, bx_below, Fm.cb], by simp [belowH, Blk.below, belowL, below, encB_below, fms_below, Fm.sc_below, encS_below, encT_below, bx_below, Fm.cb]⟩ | fail); (repeat' (first | exact trivial | refine ⟨⟨_, rfl, ?_⟩, ?_⟩ | fail)); all_goals try (first | exact Wk.refl _ | exact Wk.of_eq (congrArg (AV.int _) (by omega)) | fail))
        | false =>
          rw [hFj] at hsj
          simp only [Bool.toNat_false, Nat.add_zero] at hsj
          (repeat' ((conv => whnf); (first | (refine IfN.id ?_; first | refine IfN.ff rfl ?_ | refine IfN.dT (by omega) ?_ | fail) | (refine EqN.id ?_; first | (refine EqN.addN _ _ (by first | with_reducible rfl | with_reducible exact cst1 | with_reducible exact cst0 | with_reducible exact cst2 | with_reducible exact cst3 | with_reducible exact cst4 | with_reducible exact cst5 | with_reducible exact cst6 | with_reducible exact cst7 | with_reducible exact cst8 | with_reducible exact cst14 | with_reducible exact cst15 | with_reducible exact cst25 | with_reducible exact cst30 | with_reducible exact cst31 | fail) (by first | with_reducible rfl | with_reducible exact cst1 | with_reducible exact cst0 | with_reducible exact cst2 | with_reducible exact cst3 | with_reducible exact cst4 | with_reducible exact cst5 | with_reducible exact cst6 | with_reducible exact cst7 | with_reducible exact cst8 | with_reducible exact cst14 | with_reducible exact cst15 | with_reducible exact cst25 | with_reducible exact cst30 | with_reducible exact cst31 | fail) ?_ ?_; · (repeat' (first | omega | refine And.intro ?_ ?_ | exact bnd_andl (by omega) | exact bnd_andr (by omega) | refine bnd_or ?_ ?_ | refine bnd_or31 ?_ ?_ | refine bnd_xor ?_ ?_ | refine bnd_xor31 ?_ ?_ | refine bnd_shr ?_ | refine bnd_shl ?_ ?_ | refine bnd_mod ?_ | refine bnd_andl ?_ | fail))) | fail) | (refine SideN.mk ?_ ?_; · first | kernel_rfl | omega | exact List.cons_ne_nil _ _ | (simp; done) | (simp; omega) | exact trivial | assumption | fail) | refine SegN.rngB j rfl hlt hFj ?_ | refine DrawN.mk' [] ?_ | fail))); all_goals (conv => whnf)
          (refine ⟨⟨(j + 1, c), ⟨by simp only; omega, by simp only; omega⟩, by omega, ?_, .inl ⟨rfl, rfl⟩, rfl, _, rfl, ?_⟩⟩; rotate_left 1; (first | exact .inl rfl | exact .inr ⟨by simp [belowRE, below, belowL, tr, encB_below, fms_below, Fm.sc_below, encS_below, encT_below, bx_below, Fm.cb], by simp [belowH, Blk.below, belowL, below, encB_below, fms_below, Fm.sc_below, encS_below, encT_below, bx_below, Fm.cb]⟩ | fail); (repeat' (first | exact trivial | refine ⟨⟨_, rfl, ?_⟩, ?_⟩ | fail)); all_goals try (first | exact Wk.refl _ | exact Wk.of_eq (congrArg (AV.int _) (by omega)) | fail))
      · have hjT : j = T := by omega
        subst hjT
        rw [← n3] at hc
        subst hc
        (repeat' ((conv => whnf); (first | (refine IfN.id ?_; first | refine IfN.dF (by omega) ?_ | fail) | (refine EqN.id ?_; first | (refine EqN.addN _ _ (by first | with_reducible rfl | with_reducible exact cst1 | with_reducible exact cst0 | with_reducible exact cst2 | with_reducible exact cst3 | with_reducible exact cst4 | with_reducible exact cst5 | with_reducible exact cst6 | with_reducible exact cst7 | with_reducible exact cst8 | with_reducible exact cst14 | with_reducible exact cst15 | with_reducible exact cst25 | with_reducible exact cst30 | with_reducible exact cst31 | fail) (by first | with_reducible rfl | with_reducible exact cst1 | with_reducible exact cst0 | with_reducible exact cst2 | with_reducible exact cst3 | with_reducible exact cst4 | with_reducible exact cst5 | with_reducible exact cst6 | with_reducible exact cst7 | with_reducible exact cst8 | with_reducible exact cst14 | with_reducible exact cst15 | with_reducible exact cst25 | with_reducible exact cst30 | with_reducible exact cst31 | fail) ?_ ?_; · (repeat' (first | omega | refine And.intro ?_ ?_ | exact bnd_andl (by omega) | exact bnd_andr (by omega) | refine bnd_or ?_ ?_ | refine bnd_or31 ?_ ?_ | refine bnd_xor ?_ ?_ | refine bnd_xor31 ?_ ?_ | refine bnd_shr ?_ | refine bnd_shl ?_ ?_ | refine bnd_mod ?_ | refine bnd_andl ?_ | fail))) | fail) | refine DrawN.mk' [] ?_ | fail))); all_goals (conv => whnf)
        (refine ⟨⟨4, by omega, by omega, ?_, .inr ?_, rfl, _, rfl, ?_⟩⟩; rotate_left 2; (first | exact .inl rfl | exact .inr ⟨by simp [belowRE, below, belowL, tr, encB_below, fms_below, Fm.sc_below, encS_below, encT_below, bx_below, Fm.cb], by simp [belowH, Blk.below, belowL, below, encB_below, fms_below, Fm.sc_below, encS_below, encT_below, bx_below, Fm.cb]⟩ | fail); all_goals (repeat' (first | exact trivial | refine ⟨⟨_, rfl, ?_⟩, ?_⟩ | fail)); all_goals try (first | exact Wk.refl _ | exact Wk.of_eq (congrArg (AV.int _) (by omega)) | fail))
    · (repeat' ((conv => whnf); (first | (refine IfN.id ?_; first | refine IfN.ff rfl ?_ | refine IfN.dT (by omega) ?_ | fail) | (refine EqN.id ?_; first | refine EqN.mk _ w3 ?_ | refine EqN.mk _ w2 ?_ | (refine EqN.addN _ _ (by first | with_reducible rfl | with_reducible exact cst1 | with_reducible exact cst0 | with_reducible exact cst2 | with_reducible exact cst3 | with_reducible exact cst4 | with_reducible exact cst5 | with_reducible exact cst6 | with_reducible exact cst7 | with_reducible exact cst8 | with_reducible exact cst14 | with_reducible exact cst15 | with_reducible exact cst25 | with_reducible exact cst30 | with_reducible exact cst31 | fail) (by first | with_reducible rfl | with_reducible exact cst1 | with_reducible exact cst0 | with_reducible exact cst2 | with_reducible exact cst3 | with_reducible exact cst4 | with_reducible exact cst5 | with_reducible exact cst6 | with_reducible exact cst7 | with_reducible exact cst8 | with_reducible exact cst14 | with_reducible exact cst15 | with_reducible exact cst25 | with_reducible exact cst30 | with_reducible exact cst31 | fail) ?_ ?_; · (repeat' (first | omega | refine And.intro ?_ ?_ | exact bnd_andl (by omega) | exact bnd_andr (by omega) | refine bnd_or ?_ ?_ | refine bnd_or31 ?_ ?_ | refine bnd_xor ?_ ?_ | refine bnd_xor31 ?_ ?_ | refine bnd_shr ?_ | refine bnd_shl ?_ ?_ | refine bnd_mod ?_ | refine bnd_andl ?_ | fail))) | (refine EqN.subN _ _ (by first | with_reducible rfl | with_reducible exact cst1 | with_reducible exact cst0 | with_reducible exact cst2 | with_reducible exact cst3 | with_reducible exact cst4 | with_reducible exact cst5 | with_reducible exact cst6 | with_reducible exact cst7 | with_reducible exact cst8 | with_reducible exact cst14 | with_reducible exact cst15 | with_reducible exact cst25 | with_reducible exact cst30 | with_reducible exact cst31 | fail) (by first | with_reducible rfl | with_reducible exact cst1 | with_reducible exact cst0 | with_reducible exact cst2 | with_reducible exact cst3 | with_reducible exact cst4 | with_reducible exact cst5 | with_reducible exact cst6 | with_reducible exact cst7 | with_reducible exact cst8 | with_reducible exact cst14 | with_reducible exact cst15 | with_reducible exact cst25 | with_reducible exact cst30 | with_reducible exact cst31 | fail) ?_ ?_; · (repeat' (first | omega | refine And.intro ?_ ?_ | exact bnd_andl (by omega) | exact bnd_andr (by omega) | refine bnd_or ?_ ?_ | refine bnd_or31 ?_ ?_ | refine bnd_xor ?_ ?_ | refine bnd_xor31 ?_ ?_ | refine bnd_shr ?_ | refine bnd_shl ?_ ?_ | refine bnd_mod ?_ | refine bnd_andl ?_ | fail))) | fail) | (refine SideN.mk ?_ ?_; · first | kernel_rfl | omega | exact List.cons_ne_nil _ _ | (simp; done) | (simp; omega) | exact trivial | assumption | fail) | refine OfsN.at_ (by omega) ?_ | refine DrawN.mk' [] ?_ | fail))); all_goals (conv => whnf)
      all_goals exact EndN.det trivial (Wk.of_eq (by simp; try omega))
end Go.Proofs.YtekhodpmpjehaaaDoor
/-! text RY10 -/
namespace Go.Proofs.YtekhodpmpjehaaaDoor
open Go.Vsi
set_option maxHeartbeats 8000000

/-! ### the law TruthLeast -/
def encL (x : List Nat) : List AV := [.sl none x.length (x.flatMap encB)]
theorem encL_below (n : Nat) (l : List (List Nat)) : belowL n (l.flatMap encL) := belowL_flat _ fun x => by simp [encL, belowL, below, encB_below]
theorem SegN.eq {l l' : List AV} {o : Nat} {k : List AV → Prop} (h : l = l') (a : SegN l' o k) : SegN l o k := h ▸ a
/-- a table of which the first i values are new -/
def mixB (A B : Nat → Bool) (i v : Nat) : Bool := if v < i then A v else B v
def tab3 (A B : Nat → Bool) (S i : Nat) : List AV := (List.range S).flatMap (encT (mixB A B i))
theorem tab3_below (A B : Nat → Bool) (S i n : Nat) : belowL n (tab3 A B S i) := encT_below _ _ _
theorem tab3_map (A B : Nat → Bool) (S i : Nat) : tab3 A B S i = (List.range S).map fun v => AV.bool (mixB A B i v) := (table_flat _ _).symm
theorem tab3_len (A B : Nat → Bool) (S i : Nat) : (tab3 A B S i).length = S := by rw [tab3_map]; simp
theorem tab3_set (A B : Nat → Bool) (S i : Nat) (hi : i < S) : setC (tab3 A B S i) i [.bool (A i)] = some (tab3 A B S (i + 1)) := by
  rw [setC_one _ _ _ (by rw [tab3_len]; exact hi)]
  congr 1
  rw [tab3_map, tab3_map]
  apply List.ext_getElem?
  intro j
  rw [List.getElem?_set]
  split
  · rename_i e
    subst e
    simp [hi, mixB]
  · rename_i e
    by_cases hj : j < S
    · rw [List.getElem?_map, List.getElem?_map, List.getElem?_range hj]
      simp only [Option.map_some, Option.some.injEq, AV.bool.injEq, mixB]
      have : (j < i) ↔ (j < i + 1) := by omega
      simp only [this]
    · rw [List.getElem?_eq_none (by simpa using hj), List.getElem?_eq_none (by simpa using hj)]
theorem dropC_le : ∀ (l : List AV) (n : Nat), n ≤ l.length → dropC n l = some (l.drop n)
  | _, 0, _ => rfl
  | [], n + 1, h => by simp at h
  | _ :: l, n + 1, h => dropC_le l n (by simpa using h)
theorem tab3_drop (A B : Nat → Bool) (S i j : Nat) (hj : j < S) : ∃ r, dropC (0 + (j : Int).toNat * 1) (tab3 A B S i) = some (.bool (mixB A B i j) :: r) := by
  rw [Int.toNat_natCast, Nat.zero_add, Nat.mul_one, dropC_le _ _ (by rw [tab3_len]; omega)]
  rw [List.drop_eq_getElem_cons (by rw [tab3_len]; exact hj)]
  have : (tab3 A B S i)[j]'(by rw [tab3_len]; exact hj) = .bool (mixB A B i j) := by simp [tab3_map]
  exact ⟨List.drop (j + 1) (tab3 A B S i), by rw [this]⟩
theorem loadS_bool {loc : Heap} {u : TypeId} {l r : List AV} {j o : Nat} {b : Bool} (hj : lget loc j = some (.box u l)) (hd : dropC o l = some (.bool b :: r)) : loadS Tryd.T 4 loc (some (.lp j o)) = .mem (.v (.bool b)) := by
  simp only [loadS, hj, hd]
  rfl
theorem tab3_full (A B C : Nat → Bool) (S : Nat) : tab3 A B S S = tab3 C A S 0 := by
  rw [tab3_map, tab3_map]
  refine List.map_congr_left fun v hv => ?_
  have := List.mem_range.1 hv
  simp [mixB, this]
theorem rep_tab3 (A : Nat → Bool) (S : Nat) : repC S [.bool false] = tab3 A (fun _ => false) S 0 := by
  rw [rep_tab (fun _ => false), tab3_map]
  unfold tabB
  exact List.map_congr_left fun v hv => by simp [mixB]
/-- what the first k formulas leave -/
def lstD (L R : List Fm) (k v : Nat) : Bool := (List.range k).all fun j => ((L ++ R).getD j .fa).ev (vb (namesL (L ++ R)) v) == decide (j < L.length)
theorem lstD_succ (L R : List Fm) (k v : Nat) : lstD L R (k + 1) v = (lstD L R k v && (((L ++ R).getD k .fa).ev (vb (namesL (L ++ R)) v) == decide (k < L.length))) := by
  unfold lstD
  rw [List.range_succ, List.all_append]
  simp
theorem lstD_fin (L R : List Fm) (v : Nat) : lstD L R (L ++ R).length v = falB L R v := by
  apply b_eq
  unfold lstD falB
  simp only [List.all_eq_true, List.mem_range, Bool.and_eq_true, beq_iff_eq]
  constructor
  · intro h
    refine ⟨fun f hf => ?_, fun f hf => ?_⟩
    · obtain ⟨j, hj, rfl⟩ := List.getElem_of_mem hf
      have := h j (by rw [List.length_append]; omega)
      rw [List.getD_eq_getElem?_getD, List.getElem?_append_left hj, List.getElem?_eq_getElem hj] at this
      simpa [hj] using this
    · obtain ⟨j, hj, rfl⟩ := List.getElem_of_mem hf
      have := h (L.length + j) (by rw [List.length_append]; omega)
      rw [List.getD_eq_getElem?_getD, List.getElem?_append_right (by omega), Nat.add_sub_cancel_left, List.getElem?_eq_getElem hj, decide_eq_false (show ¬ L.length + j < L.length by omega)] at this
      simpa using this
  · rintro ⟨h1, h2⟩ j hj
    rw [List.length_append] at hj
    by_cases hjl : j < L.length
    · rw [List.getD_eq_getElem?_getD, List.getElem?_append_left hjl, List.getElem?_eq_getElem hjl]
      simpa [hjl] using h1 _ (List.getElem_mem hjl)
    · rw [List.getD_eq_getElem?_getD, List.getElem?_append_right (by omega), List.getElem?_eq_getElem (show j - L.length < R.length by omega)]
      simpa [hjl] using h2 _ (List.getElem_mem (show j - L.length < R.length by omega))
theorem wkS {t : Option Nat} {n : Nat} {cs : List AV} {l : List Fm} (hn : n = l.length) (hc : cs = l.flatMap Fm.cells) : Wk (.sl t n cs) (.sl none l.length (l.flatMap Fm.cells)) := by
  subst hn hc
  exact wk_sl _ _ _
theorem wkX {n : Nat} {cs : List AV} {l : List Fm} (hn : n = l.length) (hc : cs = l.flatMap Fm.cells) : Wk (.sx n cs) (.sl none l.length (l.flatMap Fm.cells)) := by
  subst hn hc
  exact wk_sx _ _
/-- what two branches have in common is proved once -/
structure Key (P : Prop) : Prop where
  k : P
theorem dup {P G : Prop} (h : Key P → G) (pf : P) : G := h ⟨pf⟩
theorem falA_eq (o : Option Nat) : falA o = .tup [.int .i64 ((o.getD 0 : Nat) : Int), .bool o.isSome, .int .i64 0] := by
  cases o <;> rfl
attribute [local irreducible] VW VCall VO bits cntS
theorem least_c (l m : List (List Nat)) (hl : l.length ≤ 9223372036854775807) (hl2 : ∀ x ∈ l, x.length ≤ 9223372036854775807 ∧ ∀ i, i < x.length → x.getD i 0 ≤ 255) (hm : m.length ≤ 9223372036854775807) (hm2 : ∀ x ∈ m, x.length ≤ 9223372036854775807 ∧ ∀ i, i < x.length → x.getD i 0 ≤ 255) (H : Heap) :
    VDet Tryd.prog 6 [.sl none l.length (l.flatMap encL), .sl none m.length (m.flatMap encL)] H (.bool true) := by
  have b1 := fun x (hx : x ∈ l) => built_c x (hl2 x hx).1 (hl2 x hx).2
  have b2 := fun x (hx : x ∈ m) => built_c x (hm2 x hx).1 (hm2 x hx).2
  obtain ⟨L, hL⟩ : ∃ L, L = (l.take 3).map bltF := ⟨_, rfl⟩
  obtain ⟨R, hR⟩ : ∃ R, R = (m.take 3).map bltF := ⟨_, rfl⟩
  have mLR : ∀ f ∈ L ++ R, f.Mid := fun f hf => by
    rw [hL, hR, List.mem_append, List.mem_map, List.mem_map] at hf
    rcases hf with ⟨x, _, rfl⟩ | ⟨x, _, rfl⟩ <;> exact (blt30 x).mid
  have nL : L.length = min 3 l.length := by rw [hL, List.length_map, List.length_take]
  have nR : R.length = min 3 m.length := by rw [hR, List.length_map, List.length_take]
  have nLR : (L ++ R).length = L.length + R.length := List.length_append
  have h12 := names_12 (L ++ R) fun f hf => (mLR f hf).nice.inl
  have hok := namesL_ok (L ++ R) fun f hf => (mLR f hf).nice.ok
  have hnd := nodesL_mid (L ++ R) mLR
  have h2l := two_le _ h12
  have fa := falsify_c L R (fun f hf => (mLR f hf).good) (by omega) (by omega) h12
  rw [falA_eq] at fa
  have at0 := atoms_c (L ++ R) (fun f hf => (mLR f hf).nice.pr) (by omega) (by omega)
  have at1 : ∀ x, Wk x (.sl none (L ++ R).length ((L ++ R).flatMap Fm.cells)) → ∀ H, VDet Tryd.prog 18 [x] H (.sl none (namesL (L ++ R)).length ((namesL (L ++ R)).flatMap encS)) := fun x hx H => VDet.wk (at0 H) ⟨hx, trivial⟩
  have tb : ∀ k, k < (L ++ R).length → ∀ H, VDet Tryd.prog 19 [.agg ((L ++ R).getD k .fa).cells, .sl none (namesL (L ++ R)).length ((namesL (L ++ R)).flatMap encS)] H (.tup [.sl none (2 ^ (namesL (L ++ R)).length) ((List.range (2 ^ (namesL (L ++ R)).length)).flatMap (encT fun v => ((L ++ R).getD k .fa).ev (vb (namesL (L ++ R)) v))), .int .i64 0]) := fun k hk H => by
    have hmem := getD_mem (d := Fm.fa) (L ++ R) k hk
    have := table_c _ (mLR _ hmem).good (namesL (L ++ R)) hok h12 (names_in hmem) H
    rwa [table_flat] at this
  have hsucc := lstD_succ L R
  have hfin := lstD_fin L R
  have h0 : ∀ v, lstD L R 0 v = true := fun v => rfl
  have hfal : falV L R = (List.range (2 ^ (namesL (L ++ R)).length)).find? (falB L R) := rfl
  have two : ∀ n : Nat, n ≤ 12 → EqN (IntKind.i64.wrap (1 * 2 ^ min ((n : Nat) : Int).toNat IntKind.i64.bits)) fun y => y = ((2 ^ n : Nat) : Int) := fun n hn => EqN.two n (by omega) rfl
  obtain ⟨_, w1, rfl⟩ := two _ h12
  generalize (namesL (L ++ R)).flatMap encS = nb at *
  generalize hX : (fun k v => ((L ++ R).getD k .fa).ev (vb (namesL (L ++ R)) v)) = X at *
  have hXk : ∀ k, (fun v => ((L ++ R).getD k .fa).ev (vb (namesL (L ++ R)) v)) = X k := fun k => by rw [← hX]
  simp only [hXk] at tb
  have hsucc : ∀ k v, lstD L R (k + 1) v = (lstD L R k v && (X k v == decide (k < L.length))) := fun k v => by rw [hsucc, ← hX]
  generalize 2 ^ (namesL (L ++ R)).length = S at *
  generalize (namesL (L ++ R)).length = nn at *
  generalize lstD L R = D at *
  generalize falB L R = B at *
  clear hX hXk at0 hok two
  have fa : ∀ x y, Wk x (.sl none L.length (L.flatMap Fm.cells)) → Wk y (.sl none R.length (R.flatMap Fm.cells)) → ∀ H, VDet Tryd.prog 20 [.agg [x, y]] H (.tup [.int .i64 (((falV L R).getD 0 : Nat) : Int), .bool (falV L R).isSome, .int .i64 0]) := fun x y hx hy H => VDet.wk (fa H) ⟨wk_agg ⟨hx, hy, trivial⟩, trivial⟩
  generalize falV L R = O at *
  have hO : O.isSome = false → O.getD 0 = 0 := by cases O <;> simp
  have hD0 : (fun _ => true : Nat → Bool) = D 0 := funext fun v => (h0 v).symm
  have hsm : ∀ i, i < l.length → l.getD i [] ∈ l := fun i hi => getD_mem l i hi
  have hsn : ∀ i, i < m.length → m.getD i [] ∈ m := fun i hi => getD_mem m i hi
  have tkL : ∀ i, i < 3 → i < l.length → (((l.take (i + 1)).map bltF).flatMap Fm.cells) = ((l.take i).map bltF).flatMap Fm.cells ++ (bltF (l.getD i [])).cells := fun i h3 hi => by
    rw [List.take_add_one, List.getElem?_eq_getElem hi, List.getD_eq_getElem?_getD, List.getElem?_eq_getElem hi]
    simp only [Option.toList, Option.getD, List.map_append, List.flatMap_append, List.map_cons, List.map_nil, List.flatMap_cons, List.flatMap_nil, List.append_nil]
  have tkR : ∀ i, i < 3 → i < m.length → (((m.take (i + 1)).map bltF).flatMap Fm.cells) = ((m.take i).map bltF).flatMap Fm.cells ++ (bltF (m.getD i [])).cells := fun i h3 hi => by
    rw [List.take_add_one, List.getElem?_eq_getElem hi, List.getD_eq_getElem?_getD, List.getElem?_eq_getElem hi]
    simp only [Option.toList, Option.getD, List.map_append, List.flatMap_append, List.map_cons, List.map_nil, List.flatMap_cons, List.flatMap_nil, List.append_nil]
  have lnL : ∀ i, i ≤ l.length → (((l.take i).map bltF).flatMap Fm.cells).length = i * 4 := fun i hi => by
    rw [cells_len]; simp [Nat.min_eq_left hi]
  have lnR : ∀ i, i ≤ m.length → (((m.take i).map bltF).flatMap Fm.cells).length = i * 4 := fun i hi => by
    rw [cells_len]; simp [Nat.min_eq_left hi]
  have tkL3 : ∀ i, i = min 3 l.length → ((l.take i).map bltF).flatMap Fm.cells = L.flatMap Fm.cells := fun i hi => by
    rw [hL, hi]
    rcases Nat.le_total 3 l.length with h | h
    · rw [Nat.min_eq_left h]
    · rw [Nat.min_eq_right h, List.take_length, List.take_of_length_le h]
  have tkR3 : ∀ i, i = min 3 m.length → ((m.take i).map bltF).flatMap Fm.cells = R.flatMap Fm.cells := fun i hi => by
    rw [hR, hi]
    rcases Nat.le_total 3 m.length with h | h
    · rw [Nat.min_eq_left h]
    · rw [Nat.min_eq_right h, List.take_length, List.take_of_length_le h]
  refine fn_det Tryd.E0 Tryd.mx Tryd.func6 (by kernel_rfl) rfl (Nat.le_of_ble_eq_true rfl) rfl fun hcl hbl => ?_
  (repeat' ((conv => whnf); (first | (refine IfN.id ?_; first | refine IfN.not ?_ | refine IfN.tt rfl ?_ | fail) | (refine CallN.id ?_; first | refine CallN.det _ (awake_c _) ?_ | fail) | refine DrawN.mk' [] ?_ | fail))); all_goals (conv => whnf)
  refine LoopN.tokB 0 0 28 4 rfl rfl rfl rfl rfl rfl ?_
  refine loop_R Tryd.E0 Tryd.mx (σ := Nat × List AV) (fun p => p.1 ≤ 3 ∧ p.1 ≤ l.length ∧ p.2 = ((l.take p.1).map bltF).flatMap Fm.cells) (fun p => 3 - p.1) (fun p => [(6, .v (.int .i64 p.1))]) (fun p => [.box 40 [.sl (some (H.length + 1)) p.1 p.2, .nils], .tok 28 4 p.2.length]) _ (0, []) rfl hcl [0, 1, 5] rfl ⟨Nat.zero_le _, Nat.zero_le _, rfl⟩ ⟨⟨_, rfl, Wk.refl _⟩, trivial⟩ rfl (fun _ _ => rfl) ?_
  rintro ⟨i, cs⟩ ⟨hi3, hil, hcs⟩
  simp only at hi3 hil hcs
  clear hbl
  have hcb : ∀ n, belowL n cs := fun n => by rw [hcs]; exact fms_below _ _
  have hcl4 : cs.length = i * 4 := by rw [hcs]; exact lnL i hil
  by_cases hlt : i < l.length ∧ i < 3
  · obtain ⟨hlt1, hlt2⟩ := hlt
    have hb := b1 _ (hsm i hlt1)
    have htk := tkL i hlt2 hlt1
    have hgb := fun n => Fm.cb n (bltF (l.getD i []))
    have hgc : (bltF (l.getD i [])).cells = [.int .u8 (bltF (l.getD i [])).op, .str (bltF (l.getD i [])).nmB, .sl none 0 [], .sl none (bltF (l.getD i [])).sn (bltF (l.getD i [])).sc] := rfl
    (repeat' ((conv => whnf); (first | (refine IfN.id ?_; first | refine IfN.dT (by omega) ?_ | fail) | (refine EqN.id ?_; first | (refine EqN.addN _ _ (by first | with_reducible rfl | with_reducible exact cst1 | with_reducible exact cst0 | with_reducible exact cst2 | with_reducible exact cst3 | with_reducible exact cst4 | with_reducible exact cst5 | with_reducible exact cst6 | with_reducible exact cst7 | with_reducible exact cst8 | with_reducible exact cst14 | with_reducible exact cst15 | with_reducible exact cst25 | with_reducible exact cst30 | with_reducible exact cst31 | fail) (by first | with_reducible rfl | with_reducible exact cst1 | with_reducible exact cst0 | with_reducible exact cst2 | with_reducible exact cst3 | with_reducible exact cst4 | with_reducible exact cst5 | with_reducible exact cst6 | with_reducible exact cst7 | with_reducible exact cst8 | with_reducible exact cst14 | with_reducible exact cst15 | with_reducible exact cst25 | with_reducible exact cst30 | with_reducible exact cst31 | fail) ?_ ?_; · (repeat' (first | omega | refine And.intro ?_ ?_ | exact bnd_andl (by omega) | exact bnd_andr (by omega) | refine bnd_or ?_ ?_ | refine bnd_or31 ?_ ?_ | refine bnd_xor ?_ ?_ | refine bnd_xor31 ?_ ?_ | refine bnd_shr ?_ | refine bnd_shl ?_ ?_ | refine bnd_mod ?_ | refine bnd_andl ?_ | fail))) | fail) | (refine SideN.mk ?_ ?_; · first | kernel_rfl | omega | exact List.cons_ne_nil _ _ | (simp; done) | (simp; omega) | exact trivial | assumption | fail) | (refine CallD.id ?_; first | refine CallD.det _ (fun _ hq X => hb _) ?_ | fail) | refine SegN.nth [] i rfl hlt1 (fun _ => rfl) ?_ | refine SideN.mk ⟨by simp, rfl, rfl, by dsimp only; omega, by simp only [maxLen]; omega⟩ ?_ | (refine PtrN.id ?_; first | refine PtrN.loc _ rfl ?_ | fail) | refine DrawN.mk' [] ?_ | fail))); all_goals (conv => whnf)
    have hbb : ∀ n, belowL n (cs ++ (bltF (l.getD i [])).cells) := fun n => (belowL_append _ _).2 ⟨hcb n, hgb n⟩
    (refine ⟨⟨(i + 1, cs ++ (bltF (l.getD i [])).cells), ⟨by simp only; omega, by simp only; omega, by simp only [hcs]; exact htk.symm⟩, by omega, ?_, .inl ⟨rfl, rfl⟩, rfl, _, rfl, ?_⟩⟩; rotate_left 1; (first | exact .inl rfl | exact .inr ⟨by simp [belowRE, below, belowL, tr, encB_below, fms_below, Fm.sc_below, encS_below, encT_below, encL_below, Fm.cb, tab3_below], by simp [belowH, Blk.below, belowL, below, encB_below, fms_below, Fm.sc_below, encS_below, encT_below, encL_below, Fm.cb, tab3_below]⟩ | fail); (repeat' (first | exact trivial | refine ⟨⟨_, rfl, ?_⟩, ?_⟩ | fail)); all_goals try (first | exact Wk.refl _ | exact Wk.of_eq (congrArg (AV.int _) (by omega)) | fail))
  · have hiL : i = min 3 l.length := by omega
    have hcsL := hcs.trans (tkL3 i hiL)
    rw [← nL] at hiL
    subst hiL
    clear hcs
    apply dup
    · intro key
      (repeat' ((conv => whnf); (first | (refine IfN.id ?_; first | refine IfN.dF (by omega) ?_ | refine IfN.dec (fun _ => ?_) (fun _ => ?_) | fail) | refine DrawN.mk' [] ?_ | fail))); all_goals (conv => whnf)
      all_goals
        refine LoopN.tokB 0 1 28 4 rfl rfl rfl rfl rfl rfl ?_
        refine loop_R Tryd.E0 Tryd.mx (σ := Nat × List AV) (fun p => p.1 ≤ 3 ∧ p.1 ≤ m.length ∧ p.2 = ((m.take p.1).map bltF).flatMap Fm.cells) (fun p => 3 - p.1) (fun p => [(7, .v (.int .i64 p.1))]) (fun p => [.box 40 [.sl (some (H.length + 1)) L.length cs, .sl (some (H.length + 2)) p.1 p.2], .tok 28 4 cs.length, .tok 28 4 p.2.length]) _ (0, []) rfl hcl [1, 5] rfl ⟨Nat.zero_le _, Nat.zero_le _, rfl⟩ ⟨⟨_, rfl, Wk.refl _⟩, trivial⟩ rfl (fun _ _ => rfl) ?_
        exact key.k
    · rintro ⟨j, ds⟩ ⟨hj3, hjl, hds⟩
      simp only at hj3 hjl hds
      have hdb : ∀ n, belowL n ds := fun n => by rw [hds]; exact fms_below _ _
      have hdl4 : ds.length = j * 4 := by rw [hds]; exact lnR j hjl
      by_cases hlt' : j < m.length ∧ j < 3
      · obtain ⟨hlt1, hlt2⟩ := hlt'
        have hb := b2 _ (hsn j hlt1)
        have htk := tkR j hlt2 hlt1
        have hgb := fun n => Fm.cb n (bltF (m.getD j []))
        (repeat' ((conv => whnf); (first | (refine IfN.id ?_; first | refine IfN.dT (by omega) ?_ | fail) | (refine EqN.id ?_; first | (refine EqN.addN _ _ (by first | with_reducible rfl | with_reducible exact cst1 | with_reducible exact cst0 | with_reducible exact cst2 | with_reducible exact cst3 | with_reducible exact cst4 | with_reducible exact cst5 | with_reducible exact cst6 | with_reducible exact cst7 | with_reducible exact cst8 | with_reducible exact cst14 | with_reducible exact cst15 | with_reducible exact cst25 | with_reducible exact cst30 | with_reducible exact cst31 | fail) (by first | with_reducible rfl | with_reducible exact cst1 | with_reducible exact cst0 | with_reducible exact cst2 | with_reducible exact cst3 | with_reducible exact cst4 | with_reducible exact cst5 | with_reducible exact cst6 | with_reducible exact cst7 | with_reducible exact cst8 | with_reducible exact cst14 | with_reducible exact cst15 | with_reducible exact cst25 | with_reducible exact cst30 | with_reducible exact cst31 | fail) ?_ ?_; · (repeat' (first | omega | refine And.intro ?_ ?_ | exact bnd_andl (by omega) | exact bnd_andr (by omega) | refine bnd_or ?_ ?_ | refine bnd_or31 ?_ ?_ | refine bnd_xor ?_ ?_ | refine bnd_xor31 ?_ ?_ | refine bnd_shr ?_ | refine bnd_shl ?_ ?_ | refine bnd_mod ?_ | refine bnd_andl ?_ | fail))) | fail) | (refine SideN.mk ?_ ?_; · first | kernel_rfl | omega | exact List.cons_ne_nil _ _ | (simp; done) | (simp; omega) | exact trivial | assumption | fail) | (refine CallD.id ?_; first | refine CallD.det _ (fun _ hq X => hb _) ?_ | fail) | refine SegN.nth [] j rfl hlt1 (fun _ => rfl) ?_ | refine SideN.mk ⟨by simp, rfl, rfl, by dsimp only; omega, by simp only [maxLen]; omega⟩ ?_ | (refine PtrN.id ?_; first | refine PtrN.loc _ rfl ?_ | fail) | refine DrawN.mk' [] ?_ | fail))); all_goals (conv => whnf)
        have hbb : ∀ n, belowL n (ds ++ (bltF (m.getD j [])).cells) := fun n => (belowL_append _ _).2 ⟨hdb n, hgb n⟩
        (refine ⟨⟨(j + 1, ds ++ (bltF (m.getD j [])).cells), ⟨by simp only; omega, by simp only; omega, by simp only [hds]; exact htk.symm⟩, by omega, ?_, .inl ⟨rfl, rfl⟩, rfl, _, rfl, ?_⟩⟩; rotate_left 1; (first | exact .inl rfl | exact .inr ⟨by simp [belowRE, below, belowL, tr, encB_below, fms_below, Fm.sc_below, encS_below, encT_below, encL_below, Fm.cb, tab3_below], by simp [belowH, Blk.below, belowL, below, encB_below, fms_below, Fm.sc_below, encS_below, encT_below, encL_below, Fm.cb, tab3_below]⟩ | fail); (repeat' (first | exact trivial | refine ⟨⟨_, rfl, ?_⟩, ?_⟩ | fail)); all_goals try (first | exact Wk.refl _ | exact Wk.of_eq (congrArg (AV.int _) (by omega)) | fail))
      · have hjR : j = min 3 m.length := by omega
        have hdsR := hds.trans (tkR3 j hjR)
        rw [← nR] at hjR
        subst hjR
        clear hds
        have hLRc : (L ++ R).flatMap Fm.cells = cs ++ ds := by rw [List.flatMap_append, hcsL, hdsR]
        have fa := fa (.sl (some (H.length + 1)) L.length cs) (.sl (some (H.length + 2)) R.length ds) (hcsL ▸ wk_sl _ _ _) (hdsR ▸ wk_sl _ _ _)
        clear b1 b2 hsm hsn tkL tkR lnL lnR tkL3 tkR3 mLR hl2 hm2 hlt hlt'
        have hco : allOne cs = true := by rw [hcsL]; exact cells_one _
        have hdo : allOne ds = true := by rw [hdsR]; exact cells_one _
        have hcs0 : L.length = 0 → cs = [] := fun h => List.eq_nil_of_length_eq_zero (by omega)
        have hds0 : R.length = 0 → ds = [] := fun h => List.eq_nil_of_length_eq_zero (by omega)
        by_cases hL0 : L.length = 0
        · have hcs0 := hcs0 hL0
          by_cases hR0 : R.length = 0
          · have hds0 := hds0 hR0
            apply dup
            · intro key
              (repeat' ((conv => whnf); (first | (refine IfN.id ?_; first | refine IfN.not ?_ | refine IfN.tt rfl ?_ | refine IfN.dF (by omega) ?_ | refine IfN.dec (fun _ => ?_) (fun _ => ?_) | (refine IfN.mk ?_ ?_ <;> intro _) | fail) | (refine EqN.id ?_; first | refine EqN.mk _ w1 ?_ | fail) | (refine SideN.mk ?_ ?_; · first | kernel_rfl | omega | exact List.cons_ne_nil _ _ | (simp; done) | (simp; omega) | exact trivial | assumption | fail) | refine NatN.mk _ rfl ?_ | (refine CallN.id ?_; first | refine CallN.det _ (fa _) ?_ | fail) | (refine CallD.id ?_; first | refine CallD.det _ (fun _ hq X => at1 _ (wkX (by rw [nLR, hL0, hR0]) (by rw [hLRc, hcs0, hds0]; rfl)) _) ?_ | fail) | refine OrN.r (SideN.mk hL0 ?_) | refine OrN.r (SideN.mk hR0 ?_) | refine OrN.r ?_ | refine DrawN.mk' [] ?_ | fail))); all_goals (conv => whnf)
              all_goals first
                | exact absurd (congrArg (fun n : Nat => (n : Int)) (hO (by assumption))) (by assumption)
                | (refine loop_R Tryd.E0 Tryd.mx (σ := Nat) (fun i => i ≤ S) (fun i => S - i) (fun i => [(94, .v (.int .i64 i))]) (fun i => [.box 40 [.sl (some (H.length + 1)) L.length cs, .sl (some (H.length + 2)) R.length ds], .tok 28 4 cs.length, .tok 28 4 ds.length, .box 4 (tab3 (D 0) (fun _ => false) S i)]) [(5, .lp 0 0), (8, .v (.sl none nn nb)), (9, .v (.int .i64 ((O.getD 0 : Nat) : Int))), (10, .v (.bool O.isSome)), (12, .v (.ms (H.length + 3) 0 S)), (93, .v (.int .i64 (S : Nat)))] 0 rfl hcl [5, 8, 9, 10, 12, 93] rfl (Nat.zero_le _) ⟨⟨_, rfl, Wk.refl _⟩, trivial⟩ (by rw [rep_tab3 (D 0)]) (fun _ _ => rfl) ?_; exact key.k)
            · intro i hi
              by_cases hlt : i < S
              · have key2 := tab3_set (D 0) (fun _ => false) S i hlt
                rw [h0] at key2
                (repeat' ((conv => whnf); (first | (refine IfN.id ?_; first | refine IfN.dT (by omega) ?_ | fail) | (refine PtrN.id ?_; first | refine PtrN.loc _ rfl ?_ | fail) | refine OfsN.at_ (by omega) ?_ | refine DrawN.mk' [] ?_ | fail))); all_goals (conv => whnf)
                have hst : storeS Tryd.T 4 ([.box 40 [.sl (some (H.length + 1)) L.length cs, .sl (some (H.length + 2)) R.length ds], .tok 28 4 cs.length, .tok 28 4 ds.length, .box 4 (tab3 (D 0) (fun _ => false) S i)]) (some (.lp 3 (0 + (i : Int).toNat * 1))) (some (.bool true)) = .upd 3 (.box 4 (tab3 (D 0) (fun _ => false) S (i + 1))) none := storeS_box rfl rfl rfl rfl (by rw [Int.toNat_natCast, Nat.zero_add, Nat.mul_one]; exact key2)
                refine Eq.mpr (congrArg (@SR.rec (fun _ => Prop) _ _ _ _ _ _ _ _ _ _ _ _ _ _ _ _ _ _ _ _) hst) ?_
                (repeat' ((conv => whnf); (first | (refine EqN.id ?_; first | (refine EqN.addN _ _ (by first | with_reducible rfl | with_reducible exact cst1 | with_reducible exact cst0 | with_reducible exact cst2 | with_reducible exact cst3 | with_reducible exact cst4 | with_reducible exact cst5 | with_reducible exact cst6 | with_reducible exact cst7 | with_reducible exact cst8 | with_reducible exact cst14 | with_reducible exact cst15 | with_reducible exact cst25 | with_reducible exact cst30 | with_reducible exact cst31 | fail) (by first | with_reducible rfl | with_reducible exact cst1 | with_reducible exact cst0 | with_reducible exact cst2 | with_reducible exact cst3 | with_reducible exact cst4 | with_reducible exact cst5 | with_reducible exact cst6 | with_reducible exact cst7 | with_reducible exact cst8 | with_reducible exact cst14 | with_reducible exact cst15 | with_reducible exact cst25 | with_reducible exact cst30 | with_reducible exact cst31 | fail) ?_ ?_; · (repeat' (first | omega | refine And.intro ?_ ?_ | exact bnd_andl (by omega) | exact bnd_andr (by omega) | refine bnd_or ?_ ?_ | refine bnd_or31 ?_ ?_ | refine bnd_xor ?_ ?_ | refine bnd_xor31 ?_ ?_ | refine bnd_shr ?_ | refine bnd_shl ?_ ?_ | refine bnd_mod ?_ | refine bnd_andl ?_ | fail))) | fail) | refine DrawN.mk' [] ?_ | fail))); all_goals (conv => whnf)
                (refine ⟨⟨i + 1, by omega, by omega, ?_, .inl ⟨rfl, rfl⟩, rfl, _, rfl, ?_⟩⟩; rotate_left 1; (first | exact .inl rfl | exact .inr ⟨by simp [belowRE, below, belowL, tr, encB_below, fms_below, Fm.sc_below, encS_below, encT_below, encL_below, Fm.cb, tab3_below], by simp [belowH, Blk.below, belowL, below, encB_below, fms_below, Fm.sc_below, encS_below, encT_below, encL_below, Fm.cb, tab3_below]⟩ | fail); (repeat' (first | exact trivial | refine ⟨⟨_, rfl, ?_⟩, ?_⟩ | fail)); all_goals try (first | exact Wk.refl _ | exact Wk.of_eq (congrArg (AV.int _) (by omega)) | fail))
              · obtain rfl : i = S := by omega
                rw [tab3_full _ _ (D 1)]
                (repeat' ((conv => whnf); (first | (refine IfN.id ?_; first | refine IfN.dF (by omega) ?_ | fail) | (refine SideN.mk ?_ ?_; · first | kernel_rfl | omega | exact List.cons_ne_nil _ _ | (simp; done) | (simp; omega) | exact trivial | assumption | fail) | refine OrN.r (SideN.mk hL0 ?_) | refine OrN.r (SideN.mk hR0 ?_) | refine DrawN.mk' [] ?_ | fail))); all_goals (conv => whnf)
                refine loop_R Tryd.E0 Tryd.mx (σ := Nat) (fun k => k ≤ (L ++ R).length) (fun k => (L ++ R).length - k) (fun k => [(109, .v (.int .i64 k))]) (fun k => [.box 40 [.sl (some (H.length + 1)) L.length cs, .sl (some (H.length + 2)) R.length ds], .tok 28 4 cs.length, .tok 28 4 ds.length, .box 4 (tab3 (D (k + 1)) (D k) i 0)]) _ 0 rfl hcl [5, 8, 9, 10, 12, 107, 108] rfl (Nat.zero_le _) ⟨⟨_, rfl, Wk.refl _⟩, trivial⟩ rfl (fun _ _ => rfl) ?_
                intro k hk
                by_cases hk1 : k < (L ++ R).length
                · omega
                · have hkn : k = (L ++ R).length := by omega
                  (repeat' ((conv => whnf); (first | (refine IfN.id ?_; first | refine IfN.ff rfl ?_ | fail) | refine DrawN.mk' [] ?_ | fail))); all_goals (conv => whnf)
                  refine loop_R Tryd.E0 Tryd.mx (σ := Nat) (fun j => j ≤ i ∧ ∀ v, v < j → D k v = false) (fun j => i - j) (fun j => [(156, .v (.int .i64 j))]) (fun _ => _) _ 0 rfl hcl [9, 10, 154, 155] rfl ⟨Nat.zero_le _, fun v hv => absurd hv (Nat.not_lt_zero _)⟩ ⟨⟨_, rfl, Wk.refl _⟩, trivial⟩ rfl (fun _ _ => rfl) ?_
                  rintro j ⟨hj, hjall⟩
                  by_cases hj1 : j < i
                  · have hmx : mixB (D (k + 1)) (D k) 0 j = D k j := by simp [mixB]
                    cases hDj : D k j with
                    | true =>
                      rw [hDj] at hmx
                      have hOj : O = some j := by
                        rw [hfal]
                        refine List.find?_range_eq_some.2 ⟨by rw [← hfin, ← hkn]; exact hDj, List.mem_range.2 hj1, fun v hv => ?_⟩
                        rw [← hfin, ← hkn, hjall v hv]
                        rfl
                      clear hfal
                      subst hOj
                      (repeat' ((conv => whnf); (first | (refine IfN.id ?_; first | refine IfN.dT (by omega) ?_ | fail) | (refine PtrN.id ?_; first | refine PtrN.loc _ rfl ?_ | fail) | refine OfsN.at_ (by omega) ?_ | refine DrawN.mk' [] ?_ | fail))); all_goals (conv => whnf)
                      obtain ⟨rr, hrr⟩ := tab3_drop (D (k + 1)) (D k) i 0 j hj1
                      rw [hmx] at hrr
                      refine Eq.mpr (congrArg (@SR.rec (fun _ => Prop) _ _ _ _ _ _ _ _ _ _ _ _ _ _ _ _ _ _ _ _) (loadS_bool (loc := [.box 40 [.sl (some (H.length + 1)) L.length cs, .sl (some (H.length + 2)) R.length ds], .tok 28 4 cs.length, .tok 28 4 ds.length, .box 4 (tab3 (D (k + 1)) (D k) i 0)]) (j := 3) rfl hrr)) ?_
                      (repeat' ((conv => whnf); (first | (refine IfN.id ?_; first | refine IfN.tt rfl ?_ | fail) | refine DrawN.mk' [] ?_ | fail))); all_goals (conv => whnf)
                      all_goals exact EndN.det trivial (Wk.of_eq (by simp))
                    | false =>
                      rw [hDj] at hmx
                      (repeat' ((conv => whnf); (first | (refine IfN.id ?_; first | refine IfN.dT (by omega) ?_ | fail) | (refine PtrN.id ?_; first | refine PtrN.loc _ rfl ?_ | fail) | refine OfsN.at_ (by omega) ?_ | refine DrawN.mk' [] ?_ | fail))); all_goals (conv => whnf)
                      obtain ⟨rr, hrr⟩ := tab3_drop (D (k + 1)) (D k) i 0 j hj1
                      rw [hmx] at hrr
                      refine Eq.mpr (congrArg (@SR.rec (fun _ => Prop) _ _ _ _ _ _ _ _ _ _ _ _ _ _ _ _ _ _ _ _) (loadS_bool (loc := [.box 40 [.sl (some (H.length + 1)) L.length cs, .sl (some (H.length + 2)) R.length ds], .tok 28 4 cs.length, .tok 28 4 ds.length, .box 4 (tab3 (D (k + 1)) (D k) i 0)]) (j := 3) rfl hrr)) ?_
                      (repeat' ((conv => whnf); (first | (refine IfN.id ?_; first | refine IfN.ff rfl ?_ | fail) | (refine EqN.id ?_; first | (refine EqN.addN _ _ (by first | with_reducible rfl | with_reducible exact cst1 | with_reducible exact cst0 | with_reducible exact cst2 | with_reducible exact cst3 | with_reducible exact cst4 | with_reducible exact cst5 | with_reducible exact cst6 | with_reducible exact cst7 | with_reducible exact cst8 | with_reducible exact cst14 | with_reducible exact cst15 | with_reducible exact cst25 | with_reducible exact cst30 | with_reducible exact cst31 | fail) (by first | with_reducible rfl | with_reducible exact cst1 | with_reducible exact cst0 | with_reducible exact cst2 | with_reducible exact cst3 | with_reducible exact cst4 | with_reducible exact cst5 | with_reducible exact cst6 | with_reducible exact cst7 | with_reducible exact cst8 | with_reducible exact cst14 | with_reducible exact cst15 | with_reducible exact cst25 | with_reducible exact cst30 | with_reducible exact cst31 | fail) ?_ ?_; · (repeat' (first | omega | refine And.intro ?_ ?_ | exact bnd_andl (by omega) | exact bnd_andr (by omega) | refine bnd_or ?_ ?_ | refine bnd_or31 ?_ ?_ | refine bnd_xor ?_ ?_ | refine bnd_xor31 ?_ ?_ | refine bnd_shr ?_ | refine bnd_shl ?_ ?_ | refine bnd_mod ?_ | refine bnd_andl ?_ | fail))) | fail) | refine DrawN.mk' [] ?_ | fail))); all_goals (conv => whnf)
                      (refine ⟨⟨j + 1, ⟨by omega, fun v hv => by
                        by_cases e : v = j
                        · rw [e]; exact hDj
                        · exact hjall v (by omega)⟩, by omega, ?_, .inl ⟨rfl, rfl⟩, rfl, _, rfl, ?_⟩⟩; rotate_left 1; (first | exact .inl rfl | exact .inr ⟨by simp [belowRE, below, belowL, tr, encB_below, fms_below, Fm.sc_below, encS_below, encT_below, encL_below, Fm.cb, tab3_below], by simp [belowH, Blk.below, belowL, below, encB_below, fms_below, Fm.sc_below, encS_below, encT_below, encL_below, Fm.cb, tab3_below]⟩ | fail); (repeat' (first | exact trivial | refine ⟨⟨_, rfl, ?_⟩, ?_⟩ | fail)); all_goals try (first | exact Wk.refl _ | exact Wk.of_eq (congrArg (AV.int _) (by omega)) | fail))
                  · have hOn : O = none := by
                      rw [hfal]
                      refine List.find?_range_eq_none.2 fun v hv => ?_
                      rw [← hfin, ← hkn, hjall v (by omega)]
                      rfl
                    clear hfal
                    subst hOn
                    (repeat' ((conv => whnf); (first | (refine IfN.id ?_; first | refine IfN.dF (by omega) ?_ | fail) | refine DrawN.mk' [] ?_ | fail))); all_goals (conv => whnf)
                    all_goals exact EndN.det trivial (Wk.of_eq (by simp))
          · have hRp : 0 < R.length := by omega
            clear hds0
            apply dup
            · intro key
              (repeat' ((conv => whnf); (first | (refine IfN.id ?_; first | refine IfN.not ?_ | refine IfN.tt rfl ?_ | refine IfN.dF (by omega) ?_ | refine IfN.dec (fun _ => ?_) (fun _ => ?_) | (refine IfN.mk ?_ ?_ <;> intro _) | fail) | (refine EqN.id ?_; first | refine EqN.mk _ w1 ?_ | fail) | (refine SideN.mk ?_ ?_; · first | kernel_rfl | omega | exact List.cons_ne_nil _ _ | (simp; done) | (simp; omega) | exact trivial | assumption | fail) | refine NatN.mk _ rfl ?_ | (refine CallN.id ?_; first | refine CallN.det _ (fa _) ?_ | fail) | (refine CallD.id ?_; first | refine CallD.det _ (fun _ hq X => at1 _ (wkS (by rw [nLR, hL0]) (by rw [hLRc, hcs0])) _) ?_ | fail) | refine OrN.l (SideN.mk ⟨hRp, rfl, hdl4, by dsimp only; omega, by simp only [maxLen]; omega⟩ ?_) | refine OrN.r (SideN.mk hL0 ?_) | refine OrN.r ?_ | refine DrawN.mk' [] ?_ | fail))); all_goals (conv => whnf)
              all_goals first
                | exact absurd (congrArg (fun n : Nat => (n : Int)) (hO (by assumption))) (by assumption)
                | (refine loop_R Tryd.E0 Tryd.mx (σ := Nat) (fun i => i ≤ S) (fun i => S - i) (fun i => [(94, .v (.int .i64 i))]) (fun i => [.box 40 [.sl (some (H.length + 1)) L.length cs, .sl (some (H.length + 2)) R.length ds], .tok 28 4 cs.length, .tok 28 4 ds.length, .tok 28 4 ([] ++ ds).length, .box 4 (tab3 (D 0) (fun _ => false) S i)]) [(5, .lp 0 0), (8, .v (.sl none nn nb)), (9, .v (.int .i64 ((O.getD 0 : Nat) : Int))), (10, .v (.bool O.isSome)), (12, .v (.ms (H.length + 4) 0 S)), (93, .v (.int .i64 (S : Nat)))] 0 rfl hcl [5, 8, 9, 10, 12, 93] rfl (Nat.zero_le _) ⟨⟨_, rfl, Wk.refl _⟩, trivial⟩ (by rw [rep_tab3 (D 0)]) (fun _ _ => rfl) ?_; exact key.k)
            · intro i hi
              by_cases hlt : i < S
              · have key2 := tab3_set (D 0) (fun _ => false) S i hlt
                rw [h0] at key2
                (repeat' ((conv => whnf); (first | (refine IfN.id ?_; first | refine IfN.dT (by omega) ?_ | fail) | (refine PtrN.id ?_; first | refine PtrN.loc _ rfl ?_ | fail) | refine OfsN.at_ (by omega) ?_ | refine DrawN.mk' [] ?_ | fail))); all_goals (conv => whnf)
                have hst : storeS Tryd.T 4 ([.box 40 [.sl (some (H.length + 1)) L.length cs, .sl (some (H.length + 2)) R.length ds], .tok 28 4 cs.length, .tok 28 4 ds.length, .tok 28 4 ([] ++ ds).length, .box 4 (tab3 (D 0) (fun _ => false) S i)]) (some (.lp 4 (0 + (i : Int).toNat * 1))) (some (.bool true)) = .upd 4 (.box 4 (tab3 (D 0) (fun _ => false) S (i + 1))) none := storeS_box rfl rfl rfl rfl (by rw [Int.toNat_natCast, Nat.zero_add, Nat.mul_one]; exact key2)
                refine Eq.mpr (congrArg (@SR.rec (fun _ => Prop) _ _ _ _ _ _ _ _ _ _ _ _ _ _ _ _ _ _ _ _) hst) ?_
                (repeat' ((conv => whnf); (first | (refine EqN.id ?_; first | (refine EqN.addN _ _ (by first | with_reducible rfl | with_reducible exact cst1 | with_reducible exact cst0 | with_reducible exact cst2 | with_reducible exact cst3 | with_reducible exact cst4 | with_reducible exact cst5 | with_reducible exact cst6 | with_reducible exact cst7 | with_reducible exact cst8 | with_reducible exact cst14 | with_reducible exact cst15 | with_reducible exact cst25 | with_reducible exact cst30 | with_reducible exact cst31 | fail) (by first | with_reducible rfl | with_reducible exact cst1 | with_reducible exact cst0 | with_reducible exact cst2 | with_reducible exact cst3 | with_reducible exact cst4 | with_reducible exact cst5 | with_reducible exact cst6 | with_reducible exact cst7 | with_reducible exact cst8 | with_reducible exact cst14 | with_reducible exact cst15 | with_reducible exact cst25 | with_reducible exact cst30 | with_reducible exact cst31 | fail) ?_ ?_; · (repeat' (first | omega | refine And.intro ?_ ?_ | exact bnd_andl (by omega) | exact bnd_andr (by omega) | refine bnd_or ?_ ?_ | refine bnd_or31 ?_ ?_ | refine bnd_xor ?_ ?_ | refine bnd_xor31 ?_ ?_ | refine bnd_shr ?_ | refine bnd_shl ?_ ?_ | refine bnd_mod ?_ | refine bnd_andl ?_ | fail))) | fail) | refine DrawN.mk' [] ?_ | fail))); all_goals (conv => whnf)
                (refine ⟨⟨i + 1, by omega, by omega, ?_, .inl ⟨rfl, rfl⟩, rfl, _, rfl, ?_⟩⟩; rotate_left 1; (first | exact .inl rfl | exact .inr ⟨by simp [belowRE, below, belowL, tr, encB_below, fms_below, Fm.sc_below, encS_below, encT_below, encL_below, Fm.cb, tab3_below], by simp [belowH, Blk.below, belowL, below, encB_below, fms_below, Fm.sc_below, encS_below, encT_below, encL_below, Fm.cb, tab3_below]⟩ | fail); (repeat' (first | exact trivial | refine ⟨⟨_, rfl, ?_⟩, ?_⟩ | fail)); all_goals try (first | exact Wk.refl _ | exact Wk.of_eq (congrArg (AV.int _) (by omega)) | fail))
              · obtain rfl : i = S := by omega
                rw [tab3_full _ _ (D 1)]
                (repeat' ((conv => whnf); (first | (refine IfN.id ?_; first | refine IfN.dF (by omega) ?_ | fail) | (refine SideN.mk ?_ ?_; · first | kernel_rfl | omega | exact List.cons_ne_nil _ _ | (simp; done) | (simp; omega) | exact trivial | assumption | fail) | refine OrN.l (SideN.mk ⟨hRp, rfl, hdl4, by dsimp only; omega, by simp only [maxLen]; omega⟩ ?_) | refine OrN.r (SideN.mk hL0 ?_) | refine DrawN.mk' [] ?_ | fail))); all_goals (conv => whnf)
                refine loop_R Tryd.E0 Tryd.mx (σ := Nat) (fun k => k ≤ (L ++ R).length) (fun k => (L ++ R).length - k) (fun k => [(109, .v (.int .i64 k))]) (fun k => [.box 40 [.sl (some (H.length + 1)) L.length cs, .sl (some (H.length + 2)) R.length ds], .tok 28 4 cs.length, .tok 28 4 ds.length, .tok 28 4 ([] ++ ds).length, .box 4 (tab3 (D (k + 1)) (D k) i 0), .tok 28 4 ([] ++ ds).length]) _ 0 rfl hcl [5, 8, 9, 10, 12, 107, 108] rfl (Nat.zero_le _) ⟨⟨_, rfl, Wk.refl _⟩, trivial⟩ rfl (fun _ _ => rfl) ?_
                intro k hk
                by_cases hk1 : k < (L ++ R).length
                · have tbk := tb k hk1
                  have hxc : ((L ++ R).getD k .fa).cells = [.int .u8 ((L ++ R).getD k .fa).op, .str ((L ++ R).getD k .fa).nmB, .sl none 0 [], .sl none ((L ++ R).getD k .fa).sn ((L ++ R).getD k .fa).sc] := rfl
                  (repeat' ((conv => whnf); (first | (refine IfN.id ?_; first | refine IfN.not ?_ | refine IfN.tt rfl ?_ | refine IfN.dT (by omega) ?_ | fail) | (refine SideN.mk ?_ ?_; · first | kernel_rfl | omega | exact List.cons_ne_nil _ _ | (simp; done) | (simp; omega) | exact trivial | assumption | fail) | (refine CallN.id ?_; first | refine CallN.det _ (tbk _) ?_ | fail) | refine SegN.eq (show [] ++ ds = (L ++ R).flatMap Fm.cells by rw [hLRc, hcs0]) (SegN.nth .fa k rfl hk1 (fun _ => rfl) ?_) | refine DrawN.mk' [] ?_ | fail))); all_goals (conv => whnf)
                  refine loop_R Tryd.E0 Tryd.mx (σ := Nat) (fun j => j ≤ i) (fun j => i - j) (fun j => [(131, .v (.int .i64 j))]) (fun j => [.box 40 [.sl (some (H.length + 1)) L.length cs, .sl (some (H.length + 2)) R.length ds], .tok 28 4 cs.length, .tok 28 4 ds.length, .tok 28 4 ([] ++ ds).length, .box 4 (tab3 (D (k + 1)) (D k) i j), .tok 28 4 ([] ++ ds).length, .box 28 ((L ++ R).getD k .fa).cells]) _ 0 rfl hcl [5, 8, 9, 10, 12, 14, 107, 108, 109, 129, 130] rfl (Nat.zero_le _) ⟨⟨_, rfl, Wk.refl _⟩, trivial⟩ rfl (fun _ _ => rfl) ?_
                  intro j hj
                  by_cases hj1 : j < i
                  · have key2 := tab3_set (D (k + 1)) (D k) i j hj1
                    have hmx : mixB (D (k + 1)) (D k) j j = D k j := by simp [mixB]
                    have hsk := hsucc k j
                    cases hDj : D k j with
                    | true =>
                      cases hXj : X k j with
                      | true =>
                        rw [hDj] at hmx hsk
                        rw [hXj] at hsk
                        rw [hsk] at key2
                        (repeat' ((conv => whnf); (first | (refine IfN.id ?_; first | refine IfN.dT (by omega) ?_ | fail) | (refine SideN.mk ?_ ?_; · first | kernel_rfl | omega | exact List.cons_ne_nil _ _ | (simp; done) | (simp; omega) | exact trivial | assumption | fail) | refine SegN.rngB (F := X k) j rfl hj1 hXj ?_ | (refine PtrN.id ?_; first | refine PtrN.loc _ rfl ?_ | fail) | refine OfsN.at_ (by omega) ?_ | refine DrawN.mk' [] ?_ | fail))); all_goals (conv => whnf)
                        obtain ⟨rr, hrr⟩ := tab3_drop (D (k + 1)) (D k) i j j hj1
                        rw [hmx] at hrr
                        refine Eq.mpr (congrArg (@SR.rec (fun _ => Prop) _ _ _ _ _ _ _ _ _ _ _ _ _ _ _ _ _ _ _ _) (loadS_bool (loc := [.box 40 [.sl (some (H.length + 1)) L.length cs, .sl (some (H.length + 2)) R.length ds], .tok 28 4 cs.length, .tok 28 4 ds.length, .tok 28 4 ([] ++ ds).length, .box 4 (tab3 (D (k + 1)) (D k) i j), .tok 28 4 ([] ++ ds).length, .box 28 ((L ++ R).getD k .fa).cells]) (j := 4) rfl hrr)) ?_
                        (repeat' ((conv => whnf); (first | (refine IfN.id ?_; first | refine IfN.tt rfl ?_ | fail) | (refine PtrN.id ?_; first | refine PtrN.loc _ rfl ?_ | fail) | refine OfsN.at_ (by omega) ?_ | refine DrawN.mk' [] ?_ | fail))); all_goals (conv => whnf)
                        have hst : storeS Tryd.T 4 ([.box 40 [.sl (some (H.length + 1)) L.length cs, .sl (some (H.length + 2)) R.length ds], .tok 28 4 cs.length, .tok 28 4 ds.length, .tok 28 4 ([] ++ ds).length, .box 4 (tab3 (D (k + 1)) (D k) i j), .tok 28 4 ([] ++ ds).length, .box 28 ((L ++ R).getD k .fa).cells]) (some (.lp 4 (0 + (j : Int).toNat * 1))) (some (.bool (true == decide ((k : Int) < ((L.length : Nat) : Int))))) = .upd 4 (.box 4 (tab3 (D (k + 1)) (D k) i (j + 1))) none := storeS_box rfl rfl rfl rfl (by rw [Int.toNat_natCast, Nat.zero_add, Nat.mul_one]; refine Eq.trans ?_ key2; simp)
                        refine Eq.mpr (congrArg (@SR.rec (fun _ => Prop) _ _ _ _ _ _ _ _ _ _ _ _ _ _ _ _ _ _ _ _) hst) ?_
                        (repeat' ((conv => whnf); (first | (refine EqN.id ?_; first | (refine EqN.addN _ _ (by first | with_reducible rfl | with_reducible exact cst1 | with_reducible exact cst0 | with_reducible exact cst2 | with_reducible exact cst3 | with_reducible exact cst4 | with_reducible exact cst5 | with_reducible exact cst6 | with_reducible exact cst7 | with_reducible exact cst8 | with_reducible exact cst14 | with_reducible exact cst15 | with_reducible exact cst25 | with_reducible exact cst30 | with_reducible exact cst31 | fail) (by first | with_reducible rfl | with_reducible exact cst1 | with_reducible exact cst0 | with_reducible exact cst2 | with_reducible exact cst3 | with_reducible exact cst4 | with_reducible exact cst5 | with_reducible exact cst6 | with_reducible exact cst7 | with_reducible exact cst8 | with_reducible exact cst14 | with_reducible exact cst15 | with_reducible exact cst25 | with_reducible exact cst30 | with_reducible exact cst31 | fail) ?_ ?_; · (repeat' (first | omega | refine And.intro ?_ ?_ | exact bnd_andl (by omega) | exact bnd_andr (by omega) | refine bnd_or ?_ ?_ | refine bnd_or31 ?_ ?_ | refine bnd_xor ?_ ?_ | refine bnd_xor31 ?_ ?_ | refine bnd_shr ?_ | refine bnd_shl ?_ ?_ | refine bnd_mod ?_ | refine bnd_andl ?_ | fail))) | fail) | refine DrawN.mk' [] ?_ | fail))); all_goals (conv => whnf)
                        (refine ⟨⟨j + 1, by omega, by omega, ?_, .inl ⟨rfl, rfl⟩, rfl, _, rfl, ?_⟩⟩; rotate_left 1; (first | exact .inl rfl | exact .inr ⟨by simp [belowRE, below, belowL, tr, encB_below, fms_below, Fm.sc_below, encS_below, encT_below, encL_below, Fm.cb, tab3_below], by simp [belowH, Blk.below, belowL, below, encB_below, fms_below, Fm.sc_below, encS_below, encT_below, encL_below, Fm.cb, tab3_below]⟩ | fail); (repeat' (first | exact trivial | refine ⟨⟨_, rfl, ?_⟩, ?_⟩ | fail)); all_goals try (first | exact Wk.refl _ | exact Wk.of_eq (congrArg (AV.int _) (by omega)) | fail))
                      | false =>
                        rw [hDj] at hmx hsk
                        rw [hXj] at hsk
                        rw [hsk] at key2
                        (repeat' ((conv => whnf); (first | (refine IfN.id ?_; first | refine IfN.dT (by omega) ?_ | fail) | (refine SideN.mk ?_ ?_; · first | kernel_rfl | omega | exact List.cons_ne_nil _ _ | (simp; done) | (simp; omega) | exact trivial | assumption | fail) | refine SegN.rngB (F := X k) j rfl hj1 hXj ?_ | (refine PtrN.id ?_; first | refine PtrN.loc _ rfl ?_ | fail) | refine OfsN.at_ (by omega) ?_ | refine DrawN.mk' [] ?_ | fail))); all_goals (conv => whnf)
                        obtain ⟨rr, hrr⟩ := tab3_drop (D (k + 1)) (D k) i j j hj1
                        rw [hmx] at hrr
                        refine Eq.mpr (congrArg (@SR.rec (fun _ => Prop) _ _ _ _ _ _ _ _ _ _ _ _ _ _ _ _ _ _ _ _) (loadS_bool (loc := [.box 40 [.sl (some (H.length + 1)) L.length cs, .sl (some (H.length + 2)) R.length ds], .tok 28 4 cs.length, .tok 28 4 ds.length, .tok 28 4 ([] ++ ds).length, .box 4 (tab3 (D (k + 1)) (D k) i j), .tok 28 4 ([] ++ ds).length, .box 28 ((L ++ R).getD k .fa).cells]) (j := 4) rfl hrr)) ?_
                        (repeat' ((conv => whnf); (first | (refine IfN.id ?_; first | refine IfN.tt rfl ?_ | fail) | (refine PtrN.id ?_; first | refine PtrN.loc _ rfl ?_ | fail) | refine OfsN.at_ (by omega) ?_ | refine DrawN.mk' [] ?_ | fail))); all_goals (conv => whnf)
                        have hst : storeS Tryd.T 4 ([.box 40 [.sl (some (H.length + 1)) L.length cs, .sl (some (H.length + 2)) R.length ds], .tok 28 4 cs.length, .tok 28 4 ds.length, .tok 28 4 ([] ++ ds).length, .box 4 (tab3 (D (k + 1)) (D k) i j), .tok 28 4 ([] ++ ds).length, .box 28 ((L ++ R).getD k .fa).cells]) (some (.lp 4 (0 + (j : Int).toNat * 1))) (some (.bool (false == decide ((k : Int) < ((L.length : Nat) : Int))))) = .upd 4 (.box 4 (tab3 (D (k + 1)) (D k) i (j + 1))) none := storeS_box rfl rfl rfl rfl (by rw [Int.toNat_natCast, Nat.zero_add, Nat.mul_one]; refine Eq.trans ?_ key2; simp)
                        refine Eq.mpr (congrArg (@SR.rec (fun _ => Prop) _ _ _ _ _ _ _ _ _ _ _ _ _ _ _ _ _ _ _ _) hst) ?_
                        (repeat' ((conv => whnf); (first | (refine EqN.id ?_; first | (refine EqN.addN _ _ (by first | with_reducible rfl | with_reducible exact cst1 | with_reducible exact cst0 | with_reducible exact cst2 | with_reducible exact cst3 | with_reducible exact cst4 | with_reducible exact cst5 | with_reducible exact cst6 | with_reducible exact cst7 | with_reducible exact cst8 | with_reducible exact cst14 | with_reducible exact cst15 | with_reducible exact cst25 | with_reducible exact cst30 | with_reducible exact cst31 | fail) (by first | with_reducible rfl | with_reducible exact cst1 | with_reducible exact cst0 | with_reducible exact cst2 | with_reducible exact cst3 | with_reducible exact cst4 | with_reducible exact cst5 | with_reducible exact cst6 | with_reducible exact cst7 | with_reducible exact cst8 | with_reducible exact cst14 | with_reducible exact cst15 | with_reducible exact cst25 | with_reducible exact cst30 | with_reducible exact cst31 | fail) ?_ ?_; · (repeat' (first | omega | refine And.intro ?_ ?_ | exact bnd_andl (by omega) | exact bnd_andr (by omega) | refine bnd_or ?_ ?_ | refine bnd_or31 ?_ ?_ | refine bnd_xor ?_ ?_ | refine bnd_xor31 ?_ ?_ | refine bnd_shr ?_ | refine bnd_shl ?_ ?_ | refine bnd_mod ?_ | refine bnd_andl ?_ | fail))) | fail) | refine DrawN.mk' [] ?_ | fail))); all_goals (conv => whnf)
                        (refine ⟨⟨j + 1, by omega, by omega, ?_, .inl ⟨rfl, rfl⟩, rfl, _, rfl, ?_⟩⟩; rotate_left 1; (first | exact .inl rfl | exact .inr ⟨by simp [belowRE, below, belowL, tr, encB_below, fms_below, Fm.sc_below, encS_below, encT_below, encL_below, Fm.cb, tab3_below], by simp [belowH, Blk.below, belowL, below, encB_below, fms_below, Fm.sc_below, encS_below, encT_below, encL_below, Fm.cb, tab3_below]⟩ | fail); (repeat' (first | exact trivial | refine ⟨⟨_, rfl, ?_⟩, ?_⟩ | fail)); all_goals try (first | exact Wk.refl _ | exact Wk.of_eq (congrArg (AV.int _) (by omega)) | fail))
                    | false =>
                      rw [hDj] at hmx hsk
                      rw [hsk] at key2
                      have hXj : X k j = X k j := rfl
                      (repeat' ((conv => whnf); (first | (refine IfN.id ?_; first | refine IfN.dT (by omega) ?_ | fail) | (refine SideN.mk ?_ ?_; · first | kernel_rfl | omega | exact List.cons_ne_nil _ _ | (simp; done) | (simp; omega) | exact trivial | assumption | fail) | refine SegN.rngB (F := X k) j rfl hj1 hXj ?_ | (refine PtrN.id ?_; first | refine PtrN.loc _ rfl ?_ | fail) | refine OfsN.at_ (by omega) ?_ | refine DrawN.mk' [] ?_ | fail))); all_goals (conv => whnf)
                      obtain ⟨rr, hrr⟩ := tab3_drop (D (k + 1)) (D k) i j j hj1
                      rw [hmx] at hrr
                      refine Eq.mpr (congrArg (@SR.rec (fun _ => Prop) _ _ _ _ _ _ _ _ _ _ _ _ _ _ _ _ _ _ _ _) (loadS_bool (loc := [.box 40 [.sl (some (H.length + 1)) L.length cs, .sl (some (H.length + 2)) R.length ds], .tok 28 4 cs.length, .tok 28 4 ds.length, .tok 28 4 ([] ++ ds).length, .box 4 (tab3 (D (k + 1)) (D k) i j), .tok 28 4 ([] ++ ds).length, .box 28 ((L ++ R).getD k .fa).cells]) (j := 4) rfl hrr)) ?_
                      (repeat' ((conv => whnf); (first | (refine IfN.id ?_; first | refine IfN.ff rfl ?_ | fail) | (refine PtrN.id ?_; first | refine PtrN.loc _ rfl ?_ | fail) | refine OfsN.at_ (by omega) ?_ | refine DrawN.mk' [] ?_ | fail))); all_goals (conv => whnf)
                      have hst : storeS Tryd.T 4 ([.box 40 [.sl (some (H.length + 1)) L.length cs, .sl (some (H.length + 2)) R.length ds], .tok 28 4 cs.length, .tok 28 4 ds.length, .tok 28 4 ([] ++ ds).length, .box 4 (tab3 (D (k + 1)) (D k) i j), .tok 28 4 ([] ++ ds).length, .box 28 ((L ++ R).getD k .fa).cells]) (some (.lp 4 (0 + (j : Int).toNat * 1))) (some (.bool false)) = .upd 4 (.box 4 (tab3 (D (k + 1)) (D k) i (j + 1))) none := storeS_box rfl rfl rfl rfl (by rw [Int.toNat_natCast, Nat.zero_add, Nat.mul_one]; refine Eq.trans ?_ key2; simp)
                      refine Eq.mpr (congrArg (@SR.rec (fun _ => Prop) _ _ _ _ _ _ _ _ _ _ _ _ _ _ _ _ _ _ _ _) hst) ?_
                      (repeat' ((conv => whnf); (first | (refine EqN.id ?_; first | (refine EqN.addN _ _ (by first | with_reducible rfl | with_reducible exact cst1 | with_reducible exact cst0 | with_reducible exact cst2 | with_reducible exact cst3 | with_reducible exact cst4 | with_reducible exact cst5 | with_reducible exact cst6 | with_reducible exact cst7 | with_reducible exact cst8 | with_reducible exact cst14 | with_reducible exact cst15 | with_reducible exact cst25 | with_reducible exact cst30 | with_reducible exact cst31 | fail) (by first | with_reducible rfl | with_reducible exact cst1 | with_reducible exact cst0 | with_reducible exact cst2 | with_reducible exact cst3 | with_reducible exact cst4 | with_reducible exact cst5 | with_reducible exact cst6 | with_reducible exact cst7 | with_reducible exact cst8 | with_reducible exact cst14 | with_reducible exact cst15 | with_reducible exact cst25 | with_reducible exact cst30 | with_reducible exact cst31 | fail) ?_ ?_; · (repeat' (first | omega | refine And.intro ?_ ?_ | exact bnd_andl (by omega) | exact bnd_andr (by omega) | refine bnd_or ?_ ?_ | refine bnd_or31 ?_ ?_ | refine bnd_xor ?_ ?_ | refine bnd_xor31 ?_ ?_ | refine bnd_shr ?_ | refine bnd_shl ?_ ?_ | refine bnd_mod ?_ | refine bnd_andl ?_ | fail))) | fail) | refine DrawN.mk' [] ?_ | fail))); all_goals (conv => whnf)
                      (refine ⟨⟨j + 1, by omega, by omega, ?_, .inl ⟨rfl, rfl⟩, rfl, _, rfl, ?_⟩⟩; rotate_left 1; (first | exact .inl rfl | exact .inr ⟨by simp [belowRE, below, belowL, tr, encB_below, fms_below, Fm.sc_below, encS_below, encT_below, encL_below, Fm.cb, tab3_below], by simp [belowH, Blk.below, belowL, below, encB_below, fms_below, Fm.sc_below, encS_below, encT_below, encL_below, Fm.cb, tab3_below]⟩ | fail); (repeat' (first | exact trivial | refine ⟨⟨_, rfl, ?_⟩, ?_⟩ | fail)); all_goals try (first | exact Wk.refl _ | exact Wk.of_eq (congrArg (AV.int _) (by omega)) | fail))
                  · have hji : j = i := by omega
                    rw [hji, tab3_full _ _ (D (k + 2))]
                    (repeat' ((conv => whnf); (first | (refine IfN.id ?_; first | refine IfN.dF (by omega) ?_ | fail) | (refine EqN.id ?_; first | (refine EqN.addN _ _ (by first | with_reducible rfl | with_reducible exact cst1 | with_reducible exact cst0 | with_reducible exact cst2 | with_reducible exact cst3 | with_reducible exact cst4 | with_reducible exact cst5 | with_reducible exact cst6 | with_reducible exact cst7 | with_reducible exact cst8 | with_reducible exact cst14 | with_reducible exact cst15 | with_reducible exact cst25 | with_reducible exact cst30 | with_reducible exact cst31 | fail) (by first | with_reducible rfl | with_reducible exact cst1 | with_reducible exact cst0 | with_reducible exact cst2 | with_reducible exact cst3 | with_reducible exact cst4 | with_reducible exact cst5 | with_reducible exact cst6 | with_reducible exact cst7 | with_reducible exact cst8 | with_reducible exact cst14 | with_reducible exact cst15 | with_reducible exact cst25 | with_reducible exact cst30 | with_reducible exact cst31 | fail) ?_ ?_; · (repeat' (first | omega | refine And.intro ?_ ?_ | exact bnd_andl (by omega) | exact bnd_andr (by omega) | refine bnd_or ?_ ?_ | refine bnd_or31 ?_ ?_ | refine bnd_xor ?_ ?_ | refine bnd_xor31 ?_ ?_ | refine bnd_shr ?_ | refine bnd_shl ?_ ?_ | refine bnd_mod ?_ | refine bnd_andl ?_ | fail))) | fail) | refine DrawN.mk' [] ?_ | fail))); all_goals (conv => whnf)
                    (refine ⟨⟨k + 1, by omega, by omega, ?_, .inr ?_, rfl, _, rfl, ?_⟩⟩; rotate_left 2; (first | exact .inl rfl | exact .inr ⟨by simp [belowRE, below, belowL, tr, encB_below, fms_below, Fm.sc_below, encS_below, encT_below, encL_below, Fm.cb, tab3_below, hcb, hdb], by simp [belowH, Blk.below, belowL, below, encB_below, fms_below, Fm.sc_below, encS_below, encT_below, encL_below, Fm.cb, tab3_below, hcb, hdb]⟩ | fail); all_goals (repeat' (first | exact trivial | refine ⟨⟨_, rfl, ?_⟩, ?_⟩ | fail)); all_goals try (first | exact Wk.refl _ | exact Wk.of_eq (congrArg (AV.int _) (by omega)) | fail))
                · have hkn : k = (L ++ R).length := by omega
                  (repeat' ((conv => whnf); (first | (refine IfN.id ?_; first | refine IfN.dF (by omega) ?_ | fail) | refine DrawN.mk' [] ?_ | fail))); all_goals (conv => whnf)
                  refine loop_R Tryd.E0 Tryd.mx (σ := Nat) (fun j => j ≤ i ∧ ∀ v, v < j → D k v = false) (fun j => i - j) (fun j => [(156, .v (.int .i64 j))]) (fun _ => _) _ 0 rfl hcl [9, 10, 154, 155] rfl ⟨Nat.zero_le _, fun v hv => absurd hv (Nat.not_lt_zero _)⟩ ⟨⟨_, rfl, Wk.refl _⟩, trivial⟩ rfl (fun _ _ => rfl) ?_
                  rintro j ⟨hj, hjall⟩
                  by_cases hj1 : j < i
                  · have hmx : mixB (D (k + 1)) (D k) 0 j = D k j := by simp [mixB]
                    cases hDj : D k j with
                    | true =>
                      rw [hDj] at hmx
                      have hOj : O = some j := by
                        rw [hfal]
                        refine List.find?_range_eq_some.2 ⟨by rw [← hfin, ← hkn]; exact hDj, List.mem_range.2 hj1, fun v hv => ?_⟩
                        rw [← hfin, ← hkn, hjall v hv]
                        rfl
                      clear hfal
                      subst hOj
                      (repeat' ((conv => whnf); (first | (refine IfN.id ?_; first | refine IfN.dT (by omega) ?_ | fail) | (refine PtrN.id ?_; first | refine PtrN.loc _ rfl ?_ | fail) | refine OfsN.at_ (by omega) ?_ | refine DrawN.mk' [] ?_ | fail))); all_goals (conv => whnf)
                      obtain ⟨rr, hrr⟩ := tab3_drop (D (k + 1)) (D k) i 0 j hj1
                      rw [hmx] at hrr
                      refine Eq.mpr (congrArg (@SR.rec (fun _ => Prop) _ _ _ _ _ _ _ _ _ _ _ _ _ _ _ _ _ _ _ _) (loadS_bool (loc := [.box 40 [.sl (some (H.length + 1)) L.length cs, .sl (some (H.length + 2)) R.length ds], .tok 28 4 cs.length, .tok 28 4 ds.length, .tok 28 4 ([] ++ ds).length, .box 4 (tab3 (D (k + 1)) (D k) i 0), .tok 28 4 ([] ++ ds).length]) (j := 4) rfl hrr)) ?_
                      (repeat' ((conv => whnf); (first | (refine IfN.id ?_; first | refine IfN.tt rfl ?_ | fail) | refine DrawN.mk' [] ?_ | fail))); all_goals (conv => whnf)
                      all_goals exact EndN.det trivial (Wk.of_eq (by simp))
                    | false =>
                      rw [hDj] at hmx
                      (repeat' ((conv => whnf); (first | (refine IfN.id ?_; first | refine IfN.dT (by omega) ?_ | fail) | (refine PtrN.id ?_; first | refine PtrN.loc _ rfl ?_ | fail) | refine OfsN.at_ (by omega) ?_ | refine DrawN.mk' [] ?_ | fail))); all_goals (conv => whnf)
                      obtain ⟨rr, hrr⟩ := tab3_drop (D (k + 1)) (D k) i 0 j hj1
                      rw [hmx] at hrr
                      refine Eq.mpr (congrArg (@SR.rec (fun _ => Prop) _ _ _ _ _ _ _ _ _ _ _ _ _ _ _ _ _ _ _ _) (loadS_bool (loc := [.box 40 [.sl (some (H.length + 1)) L.length cs, .sl (some (H.length + 2)) R.length ds], .tok 28 4 cs.length, .tok 28 4 ds.length, .tok 28 4 ([] ++ ds).length, .box 4 (tab3 (D (k + 1)) (D k) i 0), .tok 28 4 ([] ++ ds).length]) (j := 4) rfl hrr)) ?_
                      (repeat' ((conv => whnf); (first | (refine IfN.id ?_; first | refine IfN.ff rfl ?_ | fail) | (refine EqN.id ?_; first | (refine EqN.addN _ _ (by first | with_reducible rfl | with_reducible exact cst1 | with_reducible exact cst0 | with_reducible exact cst2 | with_reducible exact cst3 | with_reducible exact cst4 | with_reducible exact cst5 | with_reducible exact cst6 | with_reducible exact cst7 | with_reducible exact cst8 | with_reducible exact cst14 | with_reducible exact cst15 | with_reducible exact cst25 | with_reducible exact cst30 | with_reducible exact cst31 | fail) (by first | with_reducible rfl | with_reducible exact cst1 | with_reducible exact cst0 | with_reducible exact cst2 | with_reducible exact cst3 | with_reducible exact cst4 | with_reducible exact cst5 | with_reducible exact cst6 | with_reducible exact cst7 | with_reducible exact cst8 | with_reducible exact cst14 | with_reducible exact cst15 | with_reducible exact cst25 | with_reducible exact cst30 | with_reducible exact cst31 | fail) ?_ ?_; · (repeat' (first | omega | refine And.intro ?_ ?_ | exact bnd_andl (by omega) | exact bnd_andr (by omega) | refine bnd_or ?_ ?_ | refine bnd_or31 ?_ ?_ | refine bnd_xor ?_ ?_ | refine bnd_xor31 ?_ ?_ | refine bnd_shr ?_ | refine bnd_shl ?_ ?_ | refine bnd_mod ?_ | refine bnd_andl ?_ | fail))) | fail) | refine DrawN.mk' [] ?_ | fail))); all_goals (conv => whnf)
                      (refine ⟨⟨j + 1, ⟨by omega, fun v hv => by
                        by_cases e : v = j
                        · rw [e]; exact hDj
                        · exact hjall v (by omega)⟩, by omega, ?_, .inl ⟨rfl, rfl⟩, rfl, _, rfl, ?_⟩⟩; rotate_left 1; (first | exact .inl rfl | exact .inr ⟨by simp [belowRE, below, belowL, tr, encB_below, fms_below, Fm.sc_below, encS_below, encT_below, encL_below, Fm.cb, tab3_below], by simp [belowH, Blk.below, belowL, below, encB_below, fms_below, Fm.sc_below, encS_below, encT_below, encL_below, Fm.cb, tab3_below]⟩ | fail); (repeat' (first | exact trivial | refine ⟨⟨_, rfl, ?_⟩, ?_⟩ | fail)); all_goals try (first | exact Wk.refl _ | exact Wk.of_eq (congrArg (AV.int _) (by omega)) | fail))
                  · have hOn : O = none := by
                      rw [hfal]
                      refine List.find?_range_eq_none.2 fun v hv => ?_
                      rw [← hfin, ← hkn, hjall v (by omega)]
                      rfl
                    clear hfal
                    subst hOn
                    (repeat' ((conv => whnf); (first | (refine IfN.id ?_; first | refine IfN.dF (by omega) ?_ | fail) | refine DrawN.mk' [] ?_ | fail))); all_goals (conv => whnf)
                    all_goals exact EndN.det trivial (Wk.of_eq (by simp))
        · have hLp : 0 < L.length := by omega
          clear hcs0 hds0
          apply dup
          · intro key
            (repeat' ((conv => whnf); (first | (refine IfN.id ?_; first | refine IfN.not ?_ | refine IfN.tt rfl ?_ | refine IfN.dF (by omega) ?_ | refine IfN.dec (fun _ => ?_) (fun _ => ?_) | (refine IfN.mk ?_ ?_ <;> intro _) | fail) | (refine EqN.id ?_; first | refine EqN.mk _ w1 ?_ | fail) | (refine SideN.mk ?_ ?_; · first | kernel_rfl | omega | exact List.cons_ne_nil _ _ | (simp; done) | (simp; omega) | exact trivial | assumption | fail) | refine NatN.mk _ rfl ?_ | (refine CallN.id ?_; first | refine CallN.det _ (fa _) ?_ | fail) | (refine CallD.id ?_; first | refine CallD.det _ (fun _ hq X => at1 _ (wkS (by rw [nLR]; simp) (by rw [hLRc]; simp)) _) ?_ | fail) | refine OrN.l (SideN.mk ⟨hLp, rfl, hcl4, by dsimp only; omega, by simp only [maxLen]; omega⟩ ?_) | refine SideN.mk ⟨rfl, hdo, hdl4, by dsimp only; omega, by simp only [maxLen]; omega⟩ ?_ | refine OrN.r ?_ | (refine PtrN.id ?_; first | refine PtrN.loc _ rfl ?_ | fail) | refine DrawN.mk' [] ?_ | fail))); all_goals (conv => whnf)
            all_goals first
              | exact absurd (congrArg (fun n : Nat => (n : Int)) (hO (by assumption))) (by assumption)
              | (refine loop_R Tryd.E0 Tryd.mx (σ := Nat) (fun i => i ≤ S) (fun i => S - i) (fun i => [(94, .v (.int .i64 i))]) (fun i => [.box 40 [.sl (some (H.length + 1)) L.length cs, .sl (some (H.length + 2)) R.length ds], .tok 28 4 cs.length, .tok 28 4 ds.length, .tok 28 4 ([] ++ cs ++ ds).length, .box 4 (tab3 (D 0) (fun _ => false) S i)]) [(5, .lp 0 0), (8, .v (.sl none nn nb)), (9, .v (.int .i64 ((O.getD 0 : Nat) : Int))), (10, .v (.bool O.isSome)), (12, .v (.ms (H.length + 4) 0 S)), (93, .v (.int .i64 (S : Nat)))] 0 rfl hcl [5, 8, 9, 10, 12, 93] rfl (Nat.zero_le _) ⟨⟨_, rfl, Wk.refl _⟩, trivial⟩ (by rw [rep_tab3 (D 0)]) (fun _ _ => rfl) ?_; exact key.k)
          · intro i hi
            by_cases hlt : i < S
            · have key2 := tab3_set (D 0) (fun _ => false) S i hlt
              rw [h0] at key2
              (repeat' ((conv => whnf); (first | (refine IfN.id ?_; first | refine IfN.dT (by omega) ?_ | fail) | (refine PtrN.id ?_; first | refine PtrN.loc _ rfl ?_ | fail) | refine OfsN.at_ (by omega) ?_ | refine DrawN.mk' [] ?_ | fail))); all_goals (conv => whnf)
              have hst : storeS Tryd.T 4 ([.box 40 [.sl (some (H.length + 1)) L.length cs, .sl (some (H.length + 2)) R.length ds], .tok 28 4 cs.length, .tok 28 4 ds.length, .tok 28 4 ([] ++ cs ++ ds).length, .box 4 (tab3 (D 0) (fun _ => false) S i)]) (some (.lp 4 (0 + (i : Int).toNat * 1))) (some (.bool true)) = .upd 4 (.box 4 (tab3 (D 0) (fun _ => false) S (i + 1))) none := storeS_box rfl rfl rfl rfl (by rw [Int.toNat_natCast, Nat.zero_add, Nat.mul_one]; exact key2)
              refine Eq.mpr (congrArg (@SR.rec (fun _ => Prop) _ _ _ _ _ _ _ _ _ _ _ _ _ _ _ _ _ _ _ _) hst) ?_
              (repeat' ((conv => whnf); (first | (refine EqN.id ?_; first | (refine EqN.addN _ _ (by first | with_reducible rfl | with_reducible exact cst1 | with_reducible exact cst0 | with_reducible exact cst2 | with_reducible exact cst3 | with_reducible exact cst4 | with_reducible exact cst5 | with_reducible exact cst6 | with_reducible exact cst7 | with_reducible exact cst8 | with_reducible exact cst14 | with_reducible exact cst15 | with_reducible exact cst25 | with_reducible exact cst30 | with_reducible exact cst31 | fail) (by first | with_reducible rfl | with_reducible exact cst1 | with_reducible exact cst0 | with_reducible exact cst2 | with_reducible exact cst3 | with_reducible exact cst4 | with_reducible exact cst5 | with_reducible exact cst6 | with_reducible exact cst7 | with_reducible exact cst8 | with_reducible exact cst14 | with_reducible exact cst15 | with_reducible exact cst25 | with_reducible exact cst30 | with_reducible exact cst31 | fail) ?_ ?_; · (repeat' (first | omega | refine And.intro ?_ ?_ | exact bnd_andl (by omega) | exact bnd_andr (by omega) | refine bnd_or ?_ ?_ | refine bnd_or31 ?_ ?_ | refine bnd_xor ?_ ?_ | refine bnd_xor31 ?_ ?_ | refine bnd_shr ?_ | refine bnd_shl ?_ ?_ | refine bnd_mod ?_ | refine bnd_andl ?_ | fail))) | fail) | refine DrawN.mk' [] ?_ | fail))); all_goals (conv => whnf)
              (refine ⟨⟨i + 1, by omega, by omega, ?_, .inl ⟨rfl, rfl⟩, rfl, _, rfl, ?_⟩⟩; rotate_left 1; (first | exact .inl rfl | exact .inr ⟨by simp [belowRE, below, belowL, tr, encB_below, fms_below, Fm.sc_below, encS_below, encT_below, encL_below, Fm.cb, tab3_below], by simp [belowH, Blk.below, belowL, below, encB_below, fms_below, Fm.sc_below, encS_below, encT_below, encL_below, Fm.cb, tab3_below]⟩ | fail); (repeat' (first | exact trivial | refine ⟨⟨_, rfl, ?_⟩, ?_⟩ | fail)); all_goals try (first | exact Wk.refl _ | exact Wk.of_eq (congrArg (AV.int _) (by omega)) | fail))
            · obtain rfl : i = S := by omega
              rw [tab3_full _ _ (D 1)]
              (repeat' ((conv => whnf); (first | (refine IfN.id ?_; first | refine IfN.dF (by omega) ?_ | fail) | (refine SideN.mk ?_ ?_; · first | kernel_rfl | omega | exact List.cons_ne_nil _ _ | (simp; done) | (simp; omega) | exact trivial | assumption | fail) | refine OrN.l (SideN.mk ⟨hLp, rfl, hcl4, by dsimp only; omega, by simp only [maxLen]; omega⟩ ?_) | refine SideN.mk ⟨rfl, hdo, hdl4, by dsimp only; omega, by simp only [maxLen]; omega⟩ ?_ | (refine PtrN.id ?_; first | refine PtrN.loc _ rfl ?_ | fail) | refine DrawN.mk' [] ?_ | fail))); all_goals (conv => whnf)
              refine loop_R Tryd.E0 Tryd.mx (σ := Nat) (fun k => k ≤ (L ++ R).length) (fun k => (L ++ R).length - k) (fun k => [(109, .v (.int .i64 k))]) (fun k => [.box 40 [.sl (some (H.length + 1)) L.length cs, .sl (some (H.length + 2)) R.length ds], .tok 28 4 cs.length, .tok 28 4 ds.length, .tok 28 4 ([] ++ cs ++ ds).length, .box 4 (tab3 (D (k + 1)) (D k) i 0), .tok 28 4 ([] ++ cs ++ ds).length]) _ 0 rfl hcl [5, 8, 9, 10, 12, 107, 108] rfl (Nat.zero_le _) ⟨⟨_, rfl, Wk.refl _⟩, trivial⟩ rfl (fun _ _ => rfl) ?_
              intro k hk
              by_cases hk1 : k < (L ++ R).length
              · have tbk := tb k hk1
                have hxc : ((L ++ R).getD k .fa).cells = [.int .u8 ((L ++ R).getD k .fa).op, .str ((L ++ R).getD k .fa).nmB, .sl none 0 [], .sl none ((L ++ R).getD k .fa).sn ((L ++ R).getD k .fa).sc] := rfl
                (repeat' ((conv => whnf); (first | (refine IfN.id ?_; first | refine IfN.not ?_ | refine IfN.tt rfl ?_ | refine IfN.dT (by omega) ?_ | fail) | (refine SideN.mk ?_ ?_; · first | kernel_rfl | omega | exact List.cons_ne_nil _ _ | (simp; done) | (simp; omega) | exact trivial | assumption | fail) | (refine CallN.id ?_; first | refine CallN.det _ (tbk _) ?_ | fail) | refine SegN.eq (show [] ++ cs ++ ds = (L ++ R).flatMap Fm.cells by rw [hLRc]; rfl) (SegN.nth .fa k rfl hk1 (fun _ => rfl) ?_) | refine DrawN.mk' [] ?_ | fail))); all_goals (conv => whnf)
                refine loop_R Tryd.E0 Tryd.mx (σ := Nat) (fun j => j ≤ i) (fun j => i - j) (fun j => [(131, .v (.int .i64 j))]) (fun j => [.box 40 [.sl (some (H.length + 1)) L.length cs, .sl (some (H.length + 2)) R.length ds], .tok 28 4 cs.length, .tok 28 4 ds.length, .tok 28 4 ([] ++ cs ++ ds).length, .box 4 (tab3 (D (k + 1)) (D k) i j), .tok 28 4 ([] ++ cs ++ ds).length, .box 28 ((L ++ R).getD k .fa).cells]) _ 0 rfl hcl [5, 8, 9, 10, 12, 14, 107, 108, 109, 129, 130] rfl (Nat.zero_le _) ⟨⟨_, rfl, Wk.refl _⟩, trivial⟩ rfl (fun _ _ => rfl) ?_
                intro j hj
                by_cases hj1 : j < i
                · have key2 := tab3_set (D (k + 1)) (D k) i j hj1
                  have hmx : mixB (D (k + 1)) (D k) j j = D k j := by simp [mixB]
                  have hsk := hsucc k j
                  cases hDj : D k j with
                  | true =>
                    cases hXj : X k j with
                    | true =>
                      rw [hDj] at hmx hsk
                      rw [hXj] at hsk
                      rw [hsk] at key2
                      (repeat' ((conv => whnf); (first | (refine IfN.id ?_; first | refine IfN.dT (by omega) ?_ | fail) | (refine SideN.mk ?_ ?_; · first | kernel_rfl | omega | exact List.cons_ne_nil _ _ | (simp; done) | (simp; omega) | exact trivial | assumption | fail) | refine SegN.rngB (F := X k) j rfl hj1 hXj ?_ | (refine PtrN.id ?_; first | refine PtrN.loc _ rfl ?_ | fail) | refine OfsN.at_ (by omega) ?_ | refine DrawN.mk' [] ?_ | fail))); all_goals (conv => whnf)
                      obtain ⟨rr, hrr⟩ := tab3_drop (D (k + 1)) (D k) i j j hj1
                      rw [hmx] at hrr
                      refine Eq.mpr (congrArg (@SR.rec (fun _ => Prop) _ _ _ _ _ _ _ _ _ _ _ _ _ _ _ _ _ _ _ _) (loadS_bool (loc := [.box 40 [.sl (some (H.length + 1)) L.length cs, .sl (some (H.length + 2)) R.length ds], .tok 28 4 cs.length, .tok 28 4 ds.length, .tok 28 4 ([] ++ cs ++ ds).length, .box 4 (tab3 (D (k + 1)) (D k) i j), .tok 28 4 ([] ++ cs ++ ds).length, .box 28 ((L ++ R).getD k .fa).cells]) (j := 4) rfl hrr)) ?_
                      (repeat' ((conv => whnf); (first | (refine IfN.id ?_; first | refine IfN.tt rfl ?_ | fail) | (refine PtrN.id ?_; first | refine PtrN.loc _ rfl ?_ | fail) | refine OfsN.at_ (by omega) ?_ | refine DrawN.mk' [] ?_ | fail))); all_goals (conv => whnf)
                      have hst : storeS Tryd.T 4 ([.box 40 [.sl (some (H.length + 1)) L.length cs, .sl (some (H.length + 2)) R.length ds], .tok 28 4 cs.length, .tok 28 4 ds.length, .tok 28 4 ([] ++ cs ++ ds).length, .box 4 (tab3 (D (k + 1)) (D k) i j), .tok 28 4 ([] ++ cs ++ ds).length, .box 28 ((L ++ R).getD k .fa).cells]) (some (.lp 4 (0 + (j : Int).toNat * 1))) (some (.bool (true == decide ((k : Int) < ((L.length : Nat) : Int))))) = .upd 4 (.box 4 (tab3 (D (k + 1)) (D k) i (j + 1))) none := storeS_box rfl rfl rfl rfl (by rw [Int.toNat_natCast, Nat.zero_add, Nat.mul_one]; refine Eq.trans ?_ key2; simp)
                      refine Eq.mpr (congrArg (@SR.rec (fun _ => Prop) _ _ _ _ _ _ _ _ _ _ _ _ _ _ _ _ _ _ _ _) hst) ?_
                      (repeat' ((conv => whnf); (first | (refine EqN.id ?_; first | (refine EqN.addN _ _ (by first | with_reducible rfl | with_reducible exact cst1 | with_reducible exact cst0 | with_reducible exact cst2 | with_reducible exact cst3 | with_reducible exact cst4 | with_reducible exact cst5 | with_reducible exact cst6 | with_reducible exact cst7 | with_reducible exact cst8 | with_reducible exact cst14 | with_reducible exact cst15 | with_reducible exact cst25 | with_reducible exact cst30 | with_reducible exact cst31 | fail) (by first | with_reducible rfl | with_reducible exact cst1 | with_reducible exact cst0 | with_reducible exact cst2 | with_reducible exact cst3 | with_reducible exact cst4 | with_reducible exact cst5 | with_reducible exact cst6 | with_reducible exact cst7 | with_reducible exact cst8 | with_reducible exact cst14 | with_reducible exact cst15 | with_reducible exact cst25 | with_reducible exact cst30 | with_reducible exact cst31 | fail) ?_ ?_; · (repeat' (first | omega | refine And.intro ?_ ?_ | exact bnd_andl (by omega) | exact bnd_andr (by omega) | refine bnd_or ?_ ?_ | refine bnd_or31 ?_ ?_ | refine bnd_xor ?_ ?_ | refine bnd_xor31 ?_ ?_ | refine bnd_shr ?_ | refine bnd_shl ?_ ?_ | refine bnd_mod ?_ | refine bnd_andl ?_ | fail))) | fail) | refine DrawN.mk' [] ?_ | fail))); all_goals (conv => whnf)
                      (refine ⟨⟨j + 1, by omega, by omega, ?_, .inl ⟨rfl, rfl⟩, rfl, _, rfl, ?_⟩⟩; rotate_left 1; (first | exact .inl rfl | exact .inr ⟨by simp [belowRE, below, belowL, tr, encB_below, fms_below, Fm.sc_below, encS_below, encT_below, encL_below, Fm.cb, tab3_below], by simp [belowH, Blk.below, belowL, below, encB_below, fms_below, Fm.sc_below, encS_below, encT_below, encL_below, Fm.cb, tab3_below]⟩ | fail); (repeat' (first | exact trivial | refine ⟨⟨_, rfl, ?_⟩, ?_⟩ | fail)); all_goals try (first | exact Wk.refl _ | exact Wk.of_eq (congrArg (AV.int _) (by omega)) | fail))
                    | false =>
                      rw [hDj] at hmx hsk
                      rw [hXj] at hsk
                      rw [hsk] at key2
                      (repeat' ((conv => whnf); (first | (refine IfN.id ?_; first | refine IfN.dT (by omega) ?_ | fail) | (refine SideN.mk ?_ ?_; · first | kernel_rfl | omega | exact List.cons_ne_nil _ _ | (simp; done) | (simp; omega) | exact trivial | assumption | fail) | refine SegN.rngB (F := X k) j rfl hj1 hXj ?_ | (refine PtrN.id ?_; first | refine PtrN.loc _ rfl ?_ | fail) | refine OfsN.at_ (by omega) ?_ | refine DrawN.mk' [] ?_ | fail))); all_goals (conv => whnf)
                      obtain ⟨rr, hrr⟩ := tab3_drop (D (k + 1)) (D k) i j j hj1
                      rw [hmx] at hrr
                      refine Eq.mpr (congrArg (@SR.rec (fun _ => Prop) _ _ _ _ _ _ _ _ _ _ _ _ _ _ _ _ _ _ _ _) (loadS_bool (loc := [.box 40 [.sl (some (H.length + 1)) L.length cs, .sl (some (H.length + 2)) R.length ds], .tok 28 4 cs.length, .tok 28 4 ds.length, .tok 28 4 ([] ++ cs ++ ds).length, .box 4 (tab3 (D (k + 1)) (D k) i j), .tok 28 4 ([] ++ cs ++ ds).length, .box 28 ((L ++ R).getD k .fa).cells]) (j := 4) rfl hrr)) ?_
                      (repeat' ((conv => whnf); (first | (refine IfN.id ?_; first | refine IfN.tt rfl ?_ | fail) | (refine PtrN.id ?_; first | refine PtrN.loc _ rfl ?_ | fail) | refine OfsN.at_ (by omega) ?_ | refine DrawN.mk' [] ?_ | fail))); all_goals (conv => whnf)
                      have hst : storeS Tryd.T 4 ([.box 40 [.sl (some (H.length + 1)) L.length cs, .sl (some (H.length + 2)) R.length ds], .tok 28 4 cs.length, .tok 28 4 ds.length, .tok 28 4 ([] ++ cs ++ ds).length, .box 4 (tab3 (D (k + 1)) (D k) i j), .tok 28 4 ([] ++ cs ++ ds).length, .box 28 ((L ++ R).getD k .fa).cells]) (some (.lp 4 (0 + (j : Int).toNat * 1))) (some (.bool (false == decide ((k : Int) < ((L.length : Nat) : Int))))) = .upd 4 (.box 4 (tab3 (D (k + 1)) (D k) i (j + 1))) none := storeS_box rfl rfl rfl rfl (by rw [Int.toNat_natCast, Nat.zero_add, Nat.mul_one]; refine Eq.trans ?_ key2; simp)
                      refine Eq.mpr (congrArg (@SR.rec (fun _ => Prop) _ _ _ _ _ _ _ _ _ _ _ _ _ _ _ _ _ _ _ _) hst) ?_
                      (repeat' ((conv => whnf); (first | (refine EqN.id ?_; first | (refine EqN.addN _ _ (by first | with_reducible rfl | with_reducible exact cst1 | with_reducible exact cst0 | with_reducible exact cst2 | with_reducible exact cst3 | with_reducible exact cst4 | with_reducible exact cst5 | with_reducible exact cst6 | with_reducible exact cst7 | with_reducible exact cst8 | with_reducible exact cst14 | with_reducible exact cst15 | with_reducible exact cst25 | with_reducible exact cst30 | with_reducible exact cst31 | fail) (by first | with_reducible rfl | with_reducible exact cst1 | with_reducible exact cst0 | with_reducible exact cst2 | with_reducible exact cst3 | with_reducible exact cst4 | with_reducible exact cst5 | with_reducible exact cst6 | with_reducible exact cst7 | with_reducible exact cst8 | with_reducible exact cst14 | with_reducible exact cst15 | with_reducible exact cst25 | with_reducible exact cst30 | with_reducible exact cst31 | fail) ?_ ?_; · (repeat' (first | omega | refine And.intro ?_ ?_ | exact bnd_andl (by omega) | exact bnd_andr (by omega) | refine bnd_or ?_ ?_ | refine bnd_or31 ?_ ?_ | refine bnd_xor ?_ ?_ | refine bnd_xor31 ?_ ?_ | refine bnd_shr ?_ | refine bnd_shl ?_ ?_ | refine bnd_mod ?_ | refine bnd_andl ?_ | fail))) | fail) | refine DrawN.mk' [] ?_ | fail))); all_goals (conv => whnf)
                      (refine ⟨⟨j + 1, by omega, by omega, ?_, .inl ⟨rfl, rfl⟩, rfl, _, rfl, ?_⟩⟩; rotate_left 1; (first | exact .inl rfl | exact .inr ⟨by simp [belowRE, below, belowL, tr, encB_below, fms_below, Fm.sc_below, encS_below, encT_below, encL_below, Fm.cb, tab3_below], by simp [belowH, Blk.below, belowL, below, encB_below, fms_below, Fm.sc_below, encS_below, encT_below, encL_below, Fm.cb, tab3_below]⟩ | fail); (repeat' (first | exact trivial | refine ⟨⟨_, rfl, ?_⟩, ?_⟩ | fail)); all_goals try (first | exact Wk.refl _ | exact Wk.of_eq (congrArg (AV.int _) (by omega)) | fail))
                  | false =>
                    rw [hDj] at hmx hsk
                    rw [hsk] at key2
                    have hXj : X k j = X k j := rfl
                    (repeat' ((conv => whnf); (first | (refine IfN.id ?_; first | refine IfN.dT (by omega) ?_ | fail) | (refine SideN.mk ?_ ?_; · first | kernel_rfl | omega | exact List.cons_ne_nil _ _ | (simp; done) | (simp; omega) | exact trivial | assumption | fail) | refine SegN.rngB (F := X k) j rfl hj1 hXj ?_ | (refine PtrN.id ?_; first | refine PtrN.loc _ rfl ?_ | fail) | refine OfsN.at_ (by omega) ?_ | refine DrawN.mk' [] ?_ | fail))); all_goals (conv => whnf)
                    obtain ⟨rr, hrr⟩ := tab3_drop (D (k + 1)) (D k) i j j hj1
                    rw [hmx] at hrr
                    refine Eq.mpr (congrArg (@SR.rec (fun _ => Prop) _ _ _ _ _ _ _ _ _ _ _ _ _ _ _ _ _ _ _ _) (loadS_bool (loc := [.box 40 [.sl (some (H.length + 1)) L.length cs, .sl (some (H.length + 2)) R.length ds], .tok 28 4 cs.length, .tok 28 4 ds.length, .tok 28 4 ([] ++ cs ++ ds).length, .box 4 (tab3 (D (k + 1)) (D k) i j), .tok 28 4 ([] ++ cs ++ ds).length, .box 28 ((L ++ R).getD k .fa).cells]) (j := 4) rfl hrr)) ?_
                    (repeat' ((conv => whnf); (first | (refine IfN.id ?_; first | refine IfN.ff rfl ?_ | fail) | (refine PtrN.id ?_; first | refine PtrN.loc _ rfl ?_ | fail) | refine OfsN.at_ (by omega) ?_ | refine DrawN.mk' [] ?_ | fail))); all_goals (conv => whnf)
                    have hst : storeS Tryd.T 4 ([.box 40 [.sl (some (H.length + 1)) L.length cs, .sl (some (H.length + 2)) R.length ds], .tok 28 4 cs.length, .tok 28 4 ds.length, .tok 28 4 ([] ++ cs ++ ds).length, .box 4 (tab3 (D (k + 1)) (D k) i j), .tok 28 4 ([] ++ cs ++ ds).length, .box 28 ((L ++ R).getD k .fa).cells]) (some (.lp 4 (0 + (j : Int).toNat * 1))) (some (.bool false)) = .upd 4 (.box 4 (tab3 (D (k + 1)) (D k) i (j + 1))) none := storeS_box rfl rfl rfl rfl (by rw [Int.toNat_natCast, Nat.zero_add, Nat.mul_one]; refine Eq.trans ?_ key2; simp)
                    refine Eq.mpr (congrArg (@SR.rec (fun _ => Prop) _ _ _ _ _ _ _ _ _ _ _ _ _ _ _ _ _ _ _ _) hst) ?_
                    (repeat' ((conv => whnf); (first | (refine EqN.id ?_; first | (refine EqN.addN _ _ (by first | with_reducible rfl | with_reducible exact cst1 | with_reducible exact cst0 | with_reducible exact cst2 | with_reducible exact cst3 | with_reducible exact cst4 | with_reducible exact cst5 | with_reducible exact cst6 | with_reducible exact cst7 | with_reducible exact cst8 | with_reducible exact cst14 | with_reducible exact cst15 | with_reducible exact cst25 | with_reducible exact cst30 | with_reducible exact cst31 | fail) (by first | with_reducible rfl | with_reducible exact cst1 | with_reducible exact cst0 | with_reducible exact cst2 | with_reducible exact cst3 | with_reducible exact cst4 | with_reducible exact cst5 | with_reducible exact cst6 | with_reducible exact cst7 | with_reducible exact cst8 | with_reducible exact cst14 | with_reducible exact cst15 | with_reducible exact cst25 | with_reducible exact cst30 | with_reducible exact cst31 | fail) ?_ ?_; · (repeat' (first | omega | refine And.intro ?_ ?_ | exact bnd_andl (by omega) | exact bnd_andr (by omega) | refine bnd_or ?_ ?_ | refine bnd_or31 ?_ ?_ | refine bnd_xor ?_ ?_ | refine bnd_xor31 ?_ ?_ | refine bnd_shr ?_ | refine bnd_shl ?_ ?_ | refine bnd_mod ?_ | refine bnd_andl ?_ | fail))) | fail) | refine DrawN.mk' [] ?_ | fail))); all_goals (conv => whnf)
                    (refine ⟨⟨j + 1, by omega, by omega, ?_, .inl ⟨rfl, rfl⟩, rfl, _, rfl, ?_⟩⟩; rotate_left 1; (first | exact .inl rfl | exact .inr ⟨by simp [belowRE, below, belowL, tr, encB_below, fms_below, Fm.sc_below, encS_below, encT_below, encL_below, Fm.cb, tab3_below], by simp [belowH, Blk.below, belowL, below, encB_below, fms_below, Fm.sc_below, encS_below, encT_below, encL_below, Fm.cb, tab3_below]⟩ | fail); (repeat' (first | exact trivial | refine ⟨⟨_, rfl, ?_⟩, ?_⟩ | fail)); all_goals try (first | exact Wk.refl _ | exact Wk.of_eq (congrArg (AV.int _) (by omega)) | fail))
                · have hji : j = i := by omega
                  rw [hji, tab3_full _ _ (D (k + 2))]
                  (repeat' ((conv => whnf); (first | (refine IfN.id ?_; first | refine IfN.dF (by omega) ?_ | fail) | (refine EqN.id ?_; first | (refine EqN.addN _ _ (by first | with_reducible rfl | with_reducible exact cst1 | with_reducible exact cst0 | with_reducible exact cst2 | with_reducible exact cst3 | with_reducible exact cst4 | with_reducible exact cst5 | with_reducible exact cst6 | with_reducible exact cst7 | with_reducible exact cst8 | with_reducible exact cst14 | with_reducible exact cst15 | with_reducible exact cst25 | with_reducible exact cst30 | with_reducible exact cst31 | fail) (by first | with_reducible rfl | with_reducible exact cst1 | with_reducible exact cst0 | with_reducible exact cst2 | with_reducible exact cst3 | with_reducible exact cst4 | with_reducible exact cst5 | with_reducible exact cst6 | with_reducible exact cst7 | with_reducible exact cst8 | with_reducible exact cst14 | with_reducible exact cst15 | with_reducible exact cst25 | with_reducible exact cst30 | with_reducible exact cst31 | fail) ?_ ?_; · (repeat' (first | omega | refine And.intro ?_ ?_ | exact bnd_andl (by omega) | exact bnd_andr (by omega) | refine bnd_or ?_ ?_ | refine bnd_or31 ?_ ?_ | refine bnd_xor ?_ ?_ | refine bnd_xor31 ?_ ?_ | refine bnd_shr ?_ | refine bnd_shl ?_ ?_ | refine bnd_mod ?_ | refine bnd_andl ?_ | fail))) | fail) | refine DrawN.mk' [] ?_ | fail))); all_goals (conv => whnf)
                  (refine ⟨⟨k + 1, by omega, by omega, ?_, .inr ?_, rfl, _, rfl, ?_⟩⟩; rotate_left 2; (first | exact .inl rfl | exact .inr ⟨by simp [belowRE, below, belowL, tr, encB_below, fms_below, Fm.sc_below, encS_below, encT_below, encL_below, Fm.cb, tab3_below, hcb, hdb], by simp [belowH, Blk.below, belowL, below, encB_below, fms_below, Fm.sc_below, encS_below, encT_below, encL_below, Fm.cb, tab3_below, hcb, hdb]⟩ | fail); all_goals (repeat' (first | exact trivial | refine ⟨⟨_, rfl, ?_⟩, ?_⟩ | fail)); all_goals try (first | exact Wk.refl _ | exact Wk.of_eq (congrArg (AV.int _) (by omega)) | fail))
              · have hkn : k = (L ++ R).length := by omega
                (repeat' ((conv => whnf); (first | (refine IfN.id ?_; first | refine IfN.dF (by omega) ?_ | fail) | refine DrawN.mk' [] ?_ | fail))); all_goals (conv => whnf)
                refine loop_R Tryd.E0 Tryd.mx (σ := Nat) (fun j => j ≤ i ∧ ∀ v, v < j → D k v = false) (fun j => i - j) (fun j => [(156, .v (.int .i64 j))]) (fun _ => _) _ 0 rfl hcl [9, 10, 154, 155] rfl ⟨Nat.zero_le _, fun v hv => absurd hv (Nat.not_lt_zero _)⟩ ⟨⟨_, rfl, Wk.refl _⟩, trivial⟩ rfl (fun _ _ => rfl) ?_
                rintro j ⟨hj, hjall⟩
                by_cases hj1 : j < i
                · have hmx : mixB (D (k + 1)) (D k) 0 j = D k j := by simp [mixB]
                  cases hDj : D k j with
                  | true =>
                    rw [hDj] at hmx
                    have hOj : O = some j := by
                      rw [hfal]
                      refine List.find?_range_eq_some.2 ⟨by rw [← hfin, ← hkn]; exact hDj, List.mem_range.2 hj1, fun v hv => ?_⟩
                      rw [← hfin, ← hkn, hjall v hv]
                      rfl
                    clear hfal
                    subst hOj
                    (repeat' ((conv => whnf); (first | (refine IfN.id ?_; first | refine IfN.dT (by omega) ?_ | fail) | (refine PtrN.id ?_; first | refine PtrN.loc _ rfl ?_ | fail) | refine OfsN.at_ (by omega) ?_ | refine DrawN.mk' [] ?_ | fail))); all_goals (conv => whnf)
                    obtain ⟨rr, hrr⟩ := tab3_drop (D (k + 1)) (D k) i 0 j hj1
                    rw [hmx] at hrr
                    refine Eq.mpr (congrArg (@SR.rec (fun _ => Prop) _ _ _ _ _ _ _ _ _ _ _ _ _ _ _ _ _ _ _ _) (loadS_bool (loc := [.box 40 [.sl (some (H.length + 1)) L.length cs, .sl (some (H.length + 2)) R.length ds], .tok 28 4 cs.length, .tok 28 4 ds.length, .tok 28 4 ([] ++ cs ++ ds).length, .box 4 (tab3 (D (k + 1)) (D k) i 0), .tok 28 4 ([] ++ cs ++ ds).length]) (j := 4) rfl hrr)) ?_
                    (repeat' ((conv => whnf); (first | (refine IfN.id ?_; first | refine IfN.tt rfl ?_ | fail) | refine DrawN.mk' [] ?_ | fail))); all_goals (conv => whnf)
                    all_goals exact EndN.det trivial (Wk.of_eq (by simp))
                  | false =>
                    rw [hDj] at hmx
                    (repeat' ((conv => whnf); (first | (refine IfN.id ?_; first | refine IfN.dT (by omega) ?_ | fail) | (refine PtrN.id ?_; first | refine PtrN.loc _ rfl ?_ | fail) | refine OfsN.at_ (by omega) ?_ | refine DrawN.mk' [] ?_ | fail))); all_goals (conv => whnf)
                    obtain ⟨rr, hrr⟩ := tab3_drop (D (k + 1)) (D k) i 0 j hj1
                    rw [hmx] at hrr
                    refine Eq.mpr (congrArg (@SR.rec (fun _ => Prop) _ _ _ _ _ _ _ _ _ _ _ _ _ _ _ _ _ _ _ _) (loadS_bool (loc := [.box 40 [.sl (some (H.length + 1)) L.length cs, .sl (some (H.length + 2)) R.length ds], .tok 28 4 cs.length, .tok 28 4 ds.length, .tok 28 4 ([] ++ cs ++ ds).length, .box 4 (tab3 (D (k + 1)) (D k) i 0), .tok 28 4 ([] ++ cs ++ ds).length]) (j := 4) rfl hrr)) ?_
                    (repeat' ((conv => whnf); (first | (refine IfN.id ?_; first | refine IfN.ff rfl ?_ | fail) | (refine EqN.id ?_; first | (refine EqN.addN _ _ (by first | with_reducible rfl | with_reducible exact cst1 | with_reducible exact cst0 | with_reducible exact cst2 | with_reducible exact cst3 | with_reducible exact cst4 | with_reducible exact cst5 | with_reducible exact cst6 | with_reducible exact cst7 | with_reducible exact cst8 | with_reducible exact cst14 | with_reducible exact cst15 | with_reducible exact cst25 | with_reducible exact cst30 | with_reducible exact cst31 | fail) (by first | with_reducible rfl | with_reducible exact cst1 | with_reducible exact cst0 | with_reducible exact cst2 | with_reducible exact cst3 | with_reducible exact cst4 | with_reducible exact cst5 | with_reducible exact cst6 | with_reducible exact cst7 | with_reducible exact cst8 | with_reducible exact cst14 | with_reducible exact cst15 | with_reducible exact cst25 | with_reducible exact cst30 | with_reducible exact cst31 | fail) ?_ ?_; · (repeat' (first | omega | refine And.intro ?_ ?_ | exact bnd_andl (by omega) | exact bnd_andr (by omega) | refine bnd_or ?_ ?_ | refine bnd_or31 ?_ ?_ | refine bnd_xor ?_ ?_ | refine bnd_xor31 ?_ ?_ | refine bnd_shr ?_ | refine bnd_shl ?_ ?_ | refine bnd_mod ?_ | refine bnd_andl ?_ | fail))) | fail) | refine DrawN.mk' [] ?_ | fail))); all_goals (conv => whnf)
                    (refine ⟨⟨j + 1, ⟨by omega, fun v hv => by
                      by_cases e : v = j
                      · rw [e]; exact hDj
                      · exact hjall v (by omega)⟩, by omega, ?_, .inl ⟨rfl, rfl⟩, rfl, _, rfl, ?_⟩⟩; rotate_left 1; (first | exact .inl rfl | exact .inr ⟨by simp [belowRE, below, belowL, tr, encB_below, fms_below, Fm.sc_below, encS_below, encT_below, encL_below, Fm.cb, tab3_below], by simp [belowH, Blk.below, belowL, below, encB_below, fms_below, Fm.sc_below, encS_below, encT_below, encL_below, Fm.cb, tab3_below]⟩ | fail); (repeat' (first | exact trivial | refine ⟨⟨_, rfl, ?_⟩, ?_⟩ | fail)); all_goals try (first | exact Wk.refl _ | exact Wk.of_eq (congrArg (AV.int _) (by omega)) | fail))
                · have hOn : O = none := by
                    rw [hfal]
                    refine List.find?_range_eq_none.2 fun v hv => ?_
                    rw [← hfin, ← hkn, hjall v (by omega)]
                    rfl
                  clear hfal
                  subst hOn
                  (repeat' ((conv => whnf); (first | (refine IfN.id ?_; first | refine IfN.dF (by omega) ?_ | fail) | refine DrawN.mk' [] ?_ | fail))); all_goals (conv => whnf)
                  all_goals exact EndN.det trivial (Wk.of_eq (by simp))
end Go.Proofs.YtekhodpmpjehaaaDoor
/-! text D11 -/
namespace Go.Proofs.YtekhodpmpjehaaaDoor
open Go.ChangeShapes Go.WideShapes Go.ChangeAt Go.RowKit Go.Vsi

theorem bytes2_nat {l : List (List Int)} (h : l.length ≤ maxLen ∧ ∀ x ∈ l, (x.length ≤ maxLen ∧ ∀ y ∈ x, (Lit.int .u8 y).wf = true)) : ∃ c : List (List Nat), l = c.map (fun x => x.map fun n : Nat => (n : Int)) ∧ c.length ≤ 9223372036854775807 ∧ ∀ x ∈ c, x.length ≤ 9223372036854775807 ∧ ∀ i, i < x.length → x.getD i 0 ≤ 255 := by
  obtain ⟨h1, h2⟩ := h
  have key : ∀ l : List (List Int), (∀ x ∈ l, (x.length ≤ maxLen ∧ ∀ y ∈ x, (Lit.int .u8 y).wf = true)) → ∃ c : List (List Nat), l = c.map (fun x => x.map fun n : Nat => (n : Int)) ∧ ∀ x ∈ c, x.length ≤ 9223372036854775807 ∧ ∀ i, i < x.length → x.getD i 0 ≤ 255 := by
    intro l
    induction l with
    | nil => exact fun _ => ⟨[], rfl, fun x hx => by simp at hx⟩
    | cons a l ih =>
      intro h
      obtain ⟨c, e, hc⟩ := ih fun x hx => h x (List.mem_cons_of_mem _ hx)
      obtain ⟨d, e2, hd⟩ := bytes_nat (h a (List.mem_cons_self ..))
      refine ⟨d :: c, by rw [e, e2]; rfl, fun x hx => ?_⟩
      rcases List.mem_cons.1 hx with rfl | hx
      · exact hd
      · exact hc x hx
  obtain ⟨c, e, hc⟩ := key l h2
  refine ⟨c, e, ?_, hc⟩
  rw [e, List.length_map] at h1
  exact maxLen_le h1
theorem bytes2_len (c : List (List Nat)) : List.length (α := Ty.I (.sl (.int .u8))) (c.map fun x => x.map fun n : Nat => (n : Int)) = c.length := List.length_map ..
theorem bytes2_enc (c : List (List Nat)) : List.flatMap (α := Ty.I (.sl (.int .u8))) (Ty.enc (.sl (.int .u8))) (c.map fun x => x.map fun n : Nat => (n : Int)) = c.flatMap encL := by
  induction c with
  | nil => rfl
  | cons x c ih =>
    rw [List.flatMap_cons, ← ih]
    show Ty.enc (.sl (.int .u8)) (x.map fun n : Nat => (n : Int)) ++ _ = _
    have : Ty.enc (.sl (.int .u8)) (x.map fun n : Nat => (n : Int)) = encL x := by
      show [AV.sl none (List.length (α := Ty.I (.int .u8)) (x.map fun n : Nat => (n : Int))) (List.flatMap (α := Ty.I (.int .u8)) (Ty.enc (.int .u8)) (x.map fun n : Nat => (n : Int)))] = encL x
      rw [bytes_len, bytes_enc]
      rfl
    rw [this]
    rfl
theorem bytes2_cast (c : List (List Nat)) (p : AV → Prop) (h : p (.sl none c.length (c.flatMap encL))) : p (.sl none (List.length (α := Ty.I (.sl (.int .u8))) (c.map fun x => x.map fun n : Nat => (n : Int))) (List.flatMap (α := Ty.I (.sl (.int .u8))) (Ty.enc (.sl (.int .u8))) (c.map fun x => x.map fun n : Nat => (n : Int)))) := by
  rw [bytes2_len, bytes2_enc]; exact h
end Go.Proofs.YtekhodpmpjehaaaDoor
