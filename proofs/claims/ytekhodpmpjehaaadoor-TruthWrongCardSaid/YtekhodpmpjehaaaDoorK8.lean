/- A text of the proof: the parts RV10, RW10, RX10, SC10, RZ10, SD10, SE10, SF10. -/
import Derived.Test.YtekhodpmpjehaaaDoorK7
set_option linter.unusedSimpArgs false
set_option linter.unusedVariables false
/-! text RV10 -/
namespace Go.Proofs.YtekhodpmpjehaaaDoor
open Go.Vsi
set_option maxHeartbeats 4000000
attribute [local irreducible] VW VCall VO bits

/-! ### the law TruthPuts -/
theorem built_take (l : List Nat) (n : Nat) (hb : ∀ i, i < l.length → l.getD i 0 ≤ 255) (hn : n ≤ 30) (H : Heap) : VDet Tryd.prog 11 [.sl none ((min ((l.length : Nat) : Int) (n : Nat)).toNat - 0) (((l.drop 0).take ((min ((l.length : Nat) : Int) (n : Nat)).toNat - 0)).flatMap encB)] H (.agg (bltF (l.take n)).cells) := by
  rw [show (min ((l.length : Nat) : Int) (n : Nat)).toNat - 0 = min l.length n by omega, List.drop_zero, show l.take (min l.length n) = l.take n by
    rcases Nat.le_total l.length n with h | h
    · rw [Nat.min_eq_left h, List.take_length, List.take_of_length_le h]
    · rw [Nat.min_eq_right h]]
  have := built_c (l.take n) (by rw [List.length_take]; omega) (fun i hi => by
    rw [List.length_take] at hi
    have := hb i (by omega)
    rwa [List.getD_eq_getElem?_getD, List.getElem?_take, if_pos (by omega), ← List.getD_eq_getElem?_getD]) H
  rwa [List.length_take, Nat.min_comm] at this
theorem vb_with (k t : Nat) (hk : k < 12) (b : Bool) (c : UInt8) (hc : c ∈ lets) : vb lets ((t ^^^ (t &&& 2 ^ (11 - k))) ||| (if b then 2 ^ (11 - k) else 0)) c = upd (vb lets t) (lets.getD k 0) b c := by
  obtain ⟨j, hj, rfl⟩ := mem_getD lets c hc
  have hj : j < 12 := hj
  have hix : ∀ i, i < 12 → ixN lets (lets.getD i 0) = i := by decide
  have hne : ∀ i, i < 12 → ∀ i', i' < 12 → (lets.getD i 0 = lets.getD i' 0 ↔ i = i') := by decide
  unfold upd vb
  simp only [hix j hj, hne j hj k hk, show lets.length = 12 from rfl]
  rw [Nat.testBit_or, Nat.testBit_xor, Nat.testBit_and, Nat.testBit_two_pow]
  by_cases e : j = k
  · subst e
    rw [if_pos rfl, show (12 - 1 - j) = 11 - j by omega]
    cases b <;> simp
  · rw [if_neg e]
    have : ¬ 11 - k = 12 - 1 - j := by omega
    cases b <;> simp [this, Nat.testBit_two_pow]
theorem puts_c (l m : List Nat) (hl : l.length ≤ 9223372036854775807) (hb : ∀ i, i < l.length → l.getD i 0 ≤ 255) (hm : m.length ≤ 9223372036854775807) (hc : ∀ i, i < m.length → m.getD i 0 ≤ 255) (w v : Nat) (hw : w ≤ 255) (hv : v ≤ 65535) (H : Heap) :
    VDet Tryd.prog 3 [.sl none l.length (l.flatMap encB), .sl none m.length (m.flatMap encB), .int .u8 w, .int .u16 v] H (.bool true) := by
  have b1 := built_take l 12 hb (by omega)
  have b2 := built_take m 12 hc (by omega)
  have z1 := blt12 l 12
  have z2 := blt12 m 12
  generalize bltF (l.take 12) = f at *
  generalize bltF (m.take 12) = g at *
  obtain ⟨k, hk, hk12⟩ : ∃ k, w % 12 = k ∧ k < 12 := ⟨_, rfl, Nat.mod_lt _ (by decide)⟩
  obtain ⟨t, ht, ht4⟩ : ∃ t, v % 4096 = t ∧ t < 4096 := ⟨_, rfl, Nat.mod_lt _ (by decide)⟩
  have hp := put_c (lets.getD k 0) g f z1.nice.pr
  have gp := put_good (k := lets.getD k 0) z1 z2 (by omega)
  have np := put_nice (k := lets.getD k 0) z2.nice f z1.nice
  have v1 := value_c _ gp np.inl t ht4
  have v2 := value_c g (z2.mono (by omega)).good z2.nice.inl t ht4
  have v3 := fun t (ht : t < 4096) => value_c f (z1.mono (by omega)).good z1.nice.inl t ht
  have hev : (putF (lets.getD k 0) g f).ev (vb lets t) = f.ev (vb lets ((t ^^^ (t &&& 2 ^ (11 - k))) ||| (if g.ev (vb lets t) then 2 ^ (11 - k) else 0))) := by
    rw [ev_put]
    exact ev_has f fun c hc => (vb_with k t hk12 _ c ((in_iff lets f).1 z1.nice.inl c hc)).symm
  have hsub : IntKind.i64.wrap (11 - (k : Int)) = ((11 - k : Nat) : Int) := by rw [IntWalk.i64_in _ (by omega)]; omega
  have hp2 : 2 ^ (11 - k) ≤ 2048 := by
    have := Nat.pow_le_pow_right (n := 2) (by omega) (show 11 - k ≤ 11 by omega)
    simpa using this
  obtain ⟨p, hp2', hp3⟩ : ∃ p, 2 ^ (11 - k) = p ∧ p ≤ 2048 := ⟨_, rfl, hp2⟩
  have htwo : IntKind.i64.wrap (1 * 2 ^ min ((11 - k : Nat) : Int).toNat IntKind.i64.bits) = (p : Int) := by
    obtain ⟨y, e, h⟩ := EqN.two (k := fun y => y = (p : Int)) (11 - k) (by omega) (by rw [hp2'])
    rw [e, h]
  have hand : bits .andNot .i64 (t : Int) (p : Int) = ((t ^^^ (t &&& p) : Nat) : Int) := by
    obtain ⟨y, e, h⟩ := EqN.andNot (k := fun y => y = ((t ^^^ (t &&& p) : Nat) : Int)) t p rfl rfl ⟨by omega, by omega⟩ rfl
    rw [e, h]
  have ha : t ^^^ (t &&& p) < 4096 := Nat.xor_lt_two_pow (n := 12) ht4 (Nat.lt_of_le_of_lt Nat.and_le_left ht4)
  have hor : bits .or .i64 ((t ^^^ (t &&& p) : Nat) : Int) (p : Int) = (((t ^^^ (t &&& p)) ||| p : Nat) : Int) := by
    obtain ⟨y, e, h⟩ := EqN.or (k := fun y => y = (((t ^^^ (t &&& p)) ||| p : Nat) : Int)) (t ^^^ (t &&& p)) p rfl rfl ⟨by omega, by omega⟩ rfl
    rw [e, h]
  have ho : (t ^^^ (t &&& p)) ||| p < 4096 := Nat.or_lt_two_pow (n := 12) ha (by omega)
  rw [hp2'] at hev
  have v4 := v3 _ ha
  have v5 := v3 _ ho
  clear v3 hp2'
  generalize hpb0 : (putF (lets.getD k 0) g f).ev (vb lets t) = pb at *
  have hfb := fun n => f.sc_below n
  have hgb := fun n => g.sc_below n
  have hpb := fun n => (putF (lets.getD k 0) g f).sc_below n
  have hfc : f.cells = [.int .u8 f.op, .str f.nmB, .sl none 0 [], .sl none f.sn f.sc] := rfl
  have hgc : g.cells = [.int .u8 g.op, .str g.nmB, .sl none 0 [], .sl none g.sn g.sc] := rfl
  have hpc : (putF (lets.getD k 0) g f).cells = [.int .u8 (putF (lets.getD k 0) g f).op, .str (putF (lets.getD k 0) g f).nmB, .sl none 0 [], .sl none (putF (lets.getD k 0) g f).sn (putF (lets.getD k 0) g f).sc] := rfl
  have hend : pb = if g.ev (vb lets t) then f.ev (vb lets ((t ^^^ (t &&& p)) ||| p)) else f.ev (vb lets (t ^^^ (t &&& p))) := by
    rw [hev]
    cases g.ev (vb lets t) <;> simp
  generalize (t ^^^ (t &&& p)) ||| p = o at *
  generalize t ^^^ (t &&& p) = a at *
  generalize g.ev (vb lets t) = gb at *
  generalize f.ev (vb lets o) = y1 at *
  generalize f.ev (vb lets a) = y2 at *
  rw [hfc] at b1 hp v4 v5
  rw [hgc] at b2 hp v2
  rw [hpc] at v1 hp
  generalize (putF (lets.getD k 0) g f).op = po at *
  generalize (putF (lets.getD k 0) g f).nmB = pn at *
  generalize (putF (lets.getD k 0) g f).sn = psn at *
  generalize (putF (lets.getD k 0) g f).sc = psc at *
  generalize f.op = fo at *
  generalize f.nmB = fn at *
  generalize f.sn = fsn at *
  generalize f.sc = fsc at *
  generalize g.op = go at *
  generalize g.nmB = gn at *
  generalize g.sn = gsn at *
  generalize g.sc = gsc at *
  clear hev
  cases gb with
  | true =>
    refine fn_det Tryd.E0 Tryd.mx Tryd.func3 (by kernel_rfl) rfl (Nat.le_of_ble_eq_true rfl) rfl fun hcl hbl => ?_
    (repeat' ((conv => whnf); (first | (refine IfN.id ?_; first | refine IfN.not ?_ | refine IfN.tt rfl ?_ | fail) | (refine EqN.id ?_; first | refine EqN.remC _ rfl rfl hk ?_ | refine EqN.remC _ rfl rfl ht ?_ | refine EqN.mk _ hsub ?_ | refine EqN.mk _ htwo ?_ | refine EqN.mk _ hand ?_ | refine EqN.mk _ hor ?_ | refine EqN.i64 (by omega) ?_ | fail) | (refine SideN.mk ?_ ?_; · first | kernel_rfl | omega | exact List.cons_ne_nil _ _ | (simp; done) | (simp; omega) | exact trivial | assumption | fail) | refine NatN.at_ (by omega) ?_ | (refine CallN.id ?_; first | refine CallN.det _ (awake_c _) ?_ | refine CallN.det _ (v2 _) ?_ | refine CallN.det _ (v5 _) ?_ | fail) | (refine CallD.id ?_; first | refine CallD.det _ (fun _ hq X => letters_c _) ?_ | refine CallD.det _ (fun _ hq X => b1 _) ?_ | refine CallD.det _ (fun _ hq X => b2 _) ?_ | refine CallD.det _ (fun _ hq X => hp _) ?_ | refine CallD.det _ (fun _ hq X => v1 _) ?_ | fail) | refine SubN.flat (lo := 0) (n := (min ((l.length : Nat) : Int) 12).toNat - 0) (fun _ => rfl) (by omega) ?_ | refine SubN.flat (lo := 0) (n := (min ((m.length : Nat) : Int) 12).toNat - 0) (fun _ => rfl) (by omega) ?_ | refine SegN.nth (f := encS) (l := lets) 0 k rfl hk12 (fun _ => rfl) ?_ | refine DrawN.mk' [] ?_ | fail))); all_goals (conv => whnf)
    refine EndN.det trivial (Wk.of_eq ?_)
    simp [hend]
  | false =>
    refine fn_det Tryd.E0 Tryd.mx Tryd.func3 (by kernel_rfl) rfl (Nat.le_of_ble_eq_true rfl) rfl fun hcl hbl => ?_
    (repeat' ((conv => whnf); (first | (refine IfN.id ?_; first | refine IfN.not ?_ | refine IfN.tt rfl ?_ | refine IfN.ff rfl ?_ | fail) | (refine EqN.id ?_; first | refine EqN.remC _ rfl rfl hk ?_ | refine EqN.remC _ rfl rfl ht ?_ | refine EqN.mk _ hsub ?_ | refine EqN.mk _ htwo ?_ | refine EqN.mk _ hand ?_ | refine EqN.i64 (by omega) ?_ | fail) | (refine SideN.mk ?_ ?_; · first | kernel_rfl | omega | exact List.cons_ne_nil _ _ | (simp; done) | (simp; omega) | exact trivial | assumption | fail) | refine NatN.at_ (by omega) ?_ | (refine CallN.id ?_; first | refine CallN.det _ (awake_c _) ?_ | refine CallN.det _ (v2 _) ?_ | refine CallN.det _ (v4 _) ?_ | fail) | (refine CallD.id ?_; first | refine CallD.det _ (fun _ hq X => letters_c _) ?_ | refine CallD.det _ (fun _ hq X => b1 _) ?_ | refine CallD.det _ (fun _ hq X => b2 _) ?_ | refine CallD.det _ (fun _ hq X => hp _) ?_ | refine CallD.det _ (fun _ hq X => v1 _) ?_ | fail) | refine SubN.flat (lo := 0) (n := (min ((l.length : Nat) : Int) 12).toNat - 0) (fun _ => rfl) (by omega) ?_ | refine SubN.flat (lo := 0) (n := (min ((m.length : Nat) : Int) 12).toNat - 0) (fun _ => rfl) (by omega) ?_ | refine SegN.nth (f := encS) (l := lets) 0 k rfl hk12 (fun _ => rfl) ?_ | refine DrawN.mk' [] ?_ | fail))); all_goals (conv => whnf)
    refine EndN.det trivial (Wk.of_eq ?_)
    simp [hend]
end Go.Proofs.YtekhodpmpjehaaaDoor
/-! text RW10 -/
namespace Go.Proofs.YtekhodpmpjehaaaDoor
open Go.Vsi
set_option maxHeartbeats 4000000
attribute [local irreducible] VW VCall VO bits

/-! ### the law TruthDeduces -/
structure Fm.Mid (f : Fm) : Prop where
  nice : f.Nice
  nodes : f.nodes ≤ 130
  depth : f.depth ≤ 40
theorem Fm.Mid.good {f : Fm} (h : f.Mid) : f.Good := h.nice.good (by have := h.nodes; omega) h.depth
theorem Fm.Sz.mid {f : Fm} (h : f.Sz 30) : f.Mid := ⟨h.nice, by have := h.nodes; omega, by have := h.depth; omega⟩
theorem Fm.Sz.mid1 {f : Fm} (h : f.Sz 30) : (Fm.f1 3 f).Mid := ⟨nice_1 h.nice, by have := h.nodes; simp only [Fm.nodes]; omega, by have := h.depth; simp only [Fm.depth]; omega⟩
theorem Fm.Sz.mid2 {f g : Fm} (h : f.Sz 30) (h2 : g.Sz 30) (k : Nat) (hk : k = 4 ∨ k = 5 ∨ k = 6 ∨ k = 7) : (Fm.f2 k f g).Mid := ⟨nice_2 h.nice h2.nice k hk, by have := h.nodes; have := h2.nodes; simp only [Fm.nodes]; omega, by have := h.depth; have := h2.depth; simp only [Fm.depth]; omega⟩
theorem nodesL_mid : ∀ l : List Fm, (∀ f ∈ l, f.Mid) → nodesL l ≤ 130 * l.length
  | [], _ => by simp [nodesL]
  | f :: l, h => by
    have := nodesL_mid l fun g hg => h g (List.mem_cons_of_mem _ hg)
    have := (h f (List.mem_cons_self ..)).nodes
    simp only [nodesL, List.length_cons]
    omega
theorem fol_c (L R : List Fm) (h : ∀ f ∈ L ++ R, f.Mid) (hlen : L.length + R.length ≤ 6) (H : Heap) : VDet Tryd.prog 15 [.agg [.sl none L.length (L.flatMap Fm.cells), .sl none R.length (R.flatMap Fm.cells)]] H (.tup [.bool (falV L R).isNone, .int .i64 0]) :=
  follows_c L R (fun f hf => (h f hf).good) (by have := nodesL_mid _ h; rw [List.length_append] at this; omega) (by omega) (names_12 _ fun f hf => (h f hf).nice.inl) H
theorem wk_row {n : Nat} {l l2 : List AV} (e : l = l2) : Wk (.sx n l) (.sl none n l2) := e ▸ wk_sx _ _
theorem isNone_iff (L R : List Fm) : (falV L R).isNone = true ↔ ∀ r, falR L R r = false := by
  rw [Option.isNone_iff_eq_none]
  exact fal_none L R
theorem b_eq {a b : Bool} (h : a = true ↔ b = true) : a = b := Bool.eq_iff_iff.2 h
theorem ded1 (a b c : Fm) : (falV [c, a] [b]).isNone = (falV [c] [.f2 6 a b]).isNone := by
  apply b_eq
  rw [isNone_iff, isNone_iff]
  refine forall_congr' fun r => ?_
  simp only [falR, List.all_cons, List.all_nil, Fm.ev]
  cases a.ev r <;> cases b.ev r <;> cases c.ev r <;> simp
theorem ded2 (a b c d : Fm) (h : (falV [c, a] [b]).isNone = true) : (falV [d, c, a] [b]).isNone = true := by
  rw [isNone_iff] at h ⊢
  intro r
  have := h r
  simp only [falR, List.all_cons, List.all_nil] at this ⊢
  revert this
  cases a.ev r <;> cases b.ev r <;> cases c.ev r <;> cases d.ev r <;> simp
theorem ded3 (a b c : Fm) : (falV [.f1 3 b, c, a] []).isNone = (falV [c, a] [b]).isNone := by
  apply b_eq
  rw [isNone_iff, isNone_iff]
  refine forall_congr' fun r => ?_
  simp only [falR, List.all_cons, List.all_nil, Fm.ev]
  cases a.ev r <;> cases b.ev r <;> cases c.ev r <;> simp
theorem ded4 (a b d : Fm) : (falV [a] [.f2 4 b d]).isNone = ((falV [a] [b]).isNone && (falV [a] [d]).isNone) := by
  apply b_eq
  rw [Bool.and_eq_true, isNone_iff, isNone_iff, isNone_iff, ← forall_and]
  refine forall_congr' fun r => ?_
  simp only [falR, List.all_cons, List.all_nil, Fm.ev]
  cases a.ev r <;> cases b.ev r <;> cases d.ev r <;> simp
theorem deduces_c (l m n o : List Nat) (hl : l.length ≤ 9223372036854775807) (hb : ∀ i, i < l.length → l.getD i 0 ≤ 255) (hm : m.length ≤ 9223372036854775807) (hc : ∀ i, i < m.length → m.getD i 0 ≤ 255) (hn : n.length ≤ 9223372036854775807) (hd : ∀ i, i < n.length → n.getD i 0 ≤ 255) (ho : o.length ≤ 9223372036854775807) (he : ∀ i, i < o.length → o.getD i 0 ≤ 255) (H : Heap) :
    VDet Tryd.prog 4 [.sl none l.length (l.flatMap encB), .sl none m.length (m.flatMap encB), .sl none n.length (n.flatMap encB), .sl none o.length (o.flatMap encB)] H (.bool true) := by
  have b1 := built_c l hl hb
  have b2 := built_c m hm hc
  have b3 := built_c n hn hd
  have b4 := built_c o ho he
  have z1 := blt30 l
  have z2 := blt30 m
  have z3 := blt30 n
  have z4 := blt30 o
  generalize bltF l = c at *
  generalize bltF m = a at *
  generalize bltF n = b at *
  generalize bltF o = d at *
  generalize l.flatMap encB = lb at *
  generalize m.flatMap encB = mb at *
  generalize n.flatMap encB = nb at *
  generalize o.flatMap encB = ob at *
  have f1 : ∀ H, VDet Tryd.prog 15 [.agg [.sx 2 (c.cells ++ a.cells), .sx 1 b.cells]] H (.tup [.bool (falV [c, a] [b]).isNone, .int .i64 0]) := fun H =>
    VDet.wk (fol_c [c, a] [b] (by simp [z1.mid, z2.mid, z3.mid]) (by simp) H) ⟨wk_agg ⟨wk_row (by simp), wk_row (by simp), trivial⟩, trivial⟩
  have f2 : ∀ H, VDet Tryd.prog 15 [.agg [.sx 1 c.cells, .sx 1 (Fm.f2 6 a b).cells]] H (.tup [.bool (falV [c] [.f2 6 a b]).isNone, .int .i64 0]) := fun H =>
    VDet.wk (fol_c [c] [.f2 6 a b] (by simp [z1.mid, z2.mid2 z3 6 (by omega)]) (by simp) H) ⟨wk_agg ⟨wk_row (by simp), wk_row (by simp), trivial⟩, trivial⟩
  have f3 : ∀ H, VDet Tryd.prog 15 [.agg [.sx 3 (d.cells ++ c.cells ++ a.cells), .sx 1 b.cells]] H (.tup [.bool (falV [d, c, a] [b]).isNone, .int .i64 0]) := fun H =>
    VDet.wk (fol_c [d, c, a] [b] (by simp [z1.mid, z2.mid, z3.mid, z4.mid]) (by simp) H) ⟨wk_agg ⟨wk_row (by simp), wk_row (by simp), trivial⟩, trivial⟩
  have f4 : ∀ H, VDet Tryd.prog 15 [.agg [.sx 3 ((Fm.f1 3 b).cells ++ c.cells ++ a.cells), .nils]] H (.tup [.bool (falV [.f1 3 b, c, a] []).isNone, .int .i64 0]) := fun H =>
    VDet.wk (fol_c [.f1 3 b, c, a] [] (by simp [z1.mid, z2.mid, z3.mid1]) (by simp) H) ⟨wk_agg ⟨wk_row (by simp), wk_nils, trivial⟩, trivial⟩
  have f5 : ∀ H, VDet Tryd.prog 15 [.agg [.sx 1 a.cells, .sx 1 (Fm.f2 4 b d).cells]] H (.tup [.bool (falV [a] [.f2 4 b d]).isNone, .int .i64 0]) := fun H =>
    VDet.wk (fol_c [a] [.f2 4 b d] (by simp [z2.mid, z3.mid2 z4 4 (by omega)]) (by simp) H) ⟨wk_agg ⟨wk_row (by simp), wk_row (by simp), trivial⟩, trivial⟩
  have f6 : ∀ H, VDet Tryd.prog 15 [.agg [.sx 1 a.cells, .sx 1 b.cells]] H (.tup [.bool (falV [a] [b]).isNone, .int .i64 0]) := fun H =>
    VDet.wk (fol_c [a] [b] (by simp [z2.mid, z3.mid]) (by simp) H) ⟨wk_agg ⟨wk_row (by simp), wk_row (by simp), trivial⟩, trivial⟩
  have f7 : ∀ H, VDet Tryd.prog 15 [.agg [.sx 1 a.cells, .sx 1 d.cells]] H (.tup [.bool (falV [a] [d]).isNone, .int .i64 0]) := fun H =>
    VDet.wk (fol_c [a] [d] (by simp [z2.mid, z4.mid]) (by simp) H) ⟨wk_agg ⟨wk_row (by simp), wk_row (by simp), trivial⟩, trivial⟩
  have j1 : ∀ H, VDet Tryd.prog 16 [.int .u8 6, .sx 2 (a.cells ++ b.cells)] H (.agg (Fm.f2 6 a b).cells) := fun H => VDet.wk (join2_c 6 a b H) ⟨Wk.refl _, wk_sx _ _, trivial⟩
  have j2 : ∀ H, VDet Tryd.prog 16 [.int .u8 4, .sx 2 (b.cells ++ d.cells)] H (.agg (Fm.f2 4 b d).cells) := fun H => VDet.wk (join2_c 4 b d H) ⟨Wk.refl _, wk_sx _ _, trivial⟩
  have j3 : ∀ H, VDet Tryd.prog 16 [.int .u8 3, .sx 1 b.cells] H (.agg (Fm.f1 3 b).cells) := fun H => VDet.wk (join1_c 3 b H) ⟨Wk.refl _, wk_sx _ _, trivial⟩
  have p1 := ded1 a b c
  have p2 := ded2 a b c d
  have p3 := ded3 a b c
  have p4 := ded4 a b d
  generalize (falV [c, a] [b]).isNone = x at *
  generalize (falV [c] [.f2 6 a b]).isNone = y at *
  generalize (falV [d, c, a] [b]).isNone = z at *
  generalize (falV [.f1 3 b, c, a] []).isNone = w at *
  generalize (falV [a] [.f2 4 b d]).isNone = u at *
  generalize (falV [a] [b]).isNone = p at *
  generalize (falV [a] [d]).isNone = q at *
  subst p1 p3 p4
  clear z1 z2 z3 z4
  refine fn_det Tryd.E0 Tryd.mx Tryd.func4 (by kernel_rfl) rfl (Nat.le_of_ble_eq_true rfl) rfl fun hcl hbl => ?_
  (repeat' ((conv => whnf); (first | (refine IfN.id ?_; first | refine IfN.not ?_ | refine IfN.tt rfl ?_ | refine IfN.dT (by omega) ?_ | refine IfN.dec (fun _ => ?_) (fun _ => ?_) | (refine IfN.mk ?_ ?_ <;> intro _) | fail) | (refine EqN.id ?_; first | (refine EqN.addN _ _ (by first | with_reducible rfl | with_reducible exact cst1 | with_reducible exact cst0 | with_reducible exact cst2 | with_reducible exact cst3 | with_reducible exact cst4 | with_reducible exact cst5 | with_reducible exact cst6 | with_reducible exact cst7 | with_reducible exact cst8 | with_reducible exact cst14 | with_reducible exact cst15 | with_reducible exact cst25 | with_reducible exact cst30 | with_reducible exact cst31 | fail) (by first | with_reducible rfl | with_reducible exact cst1 | with_reducible exact cst0 | with_reducible exact cst2 | with_reducible exact cst3 | with_reducible exact cst4 | with_reducible exact cst5 | with_reducible exact cst6 | with_reducible exact cst7 | with_reducible exact cst8 | with_reducible exact cst14 | with_reducible exact cst15 | with_reducible exact cst25 | with_reducible exact cst30 | with_reducible exact cst31 | fail) ?_ ?_; · (repeat' (first | omega | refine And.intro ?_ ?_ | exact bnd_andl (by omega) | exact bnd_andr (by omega) | refine bnd_or ?_ ?_ | refine bnd_or31 ?_ ?_ | refine bnd_xor ?_ ?_ | refine bnd_xor31 ?_ ?_ | refine bnd_shr ?_ | refine bnd_shl ?_ ?_ | refine bnd_mod ?_ | refine bnd_andl ?_ | fail))) | fail) | (refine SideN.mk ?_ ?_; · first | kernel_rfl | omega | exact List.cons_ne_nil _ _ | (simp; done) | (simp; omega) | exact trivial | assumption | fail) | (refine CallN.id ?_; first | refine CallN.det _ (awake_c _) ?_ | refine CallN.det _ (b1 _) ?_ | refine CallN.det _ (b2 _) ?_ | refine CallN.det _ (b3 _) ?_ | refine CallN.det _ (b4 _) ?_ | refine CallN.det _ (f1 _) ?_ | refine CallN.det _ (f3 _) ?_ | refine CallN.det _ (f6 _) ?_ | refine CallN.det _ (f7 _) ?_ | fail) | (refine CallD.id ?_; first | refine CallD.det _ (fun _ hq X => j1 _) ?_ | refine CallD.det _ (fun _ hq X => j2 _) ?_ | refine CallD.det _ (fun _ hq X => j3 _) ?_ | refine CallD.det _ (fun _ hq X => f2 _) ?_ | refine CallD.det _ (fun _ hq X => f4 _) ?_ | refine CallD.det _ (fun _ hq X => f5 _) ?_ | fail) | refine DrawN.mk' [] ?_ | fail))); all_goals (conv => whnf)
  all_goals
    refine EndN.det trivial (Wk.of_eq (congrArg AV.bool ?_))
    simp_all
end Go.Proofs.YtekhodpmpjehaaaDoor
/-! text RX10 -/
namespace Go.Proofs.YtekhodpmpjehaaaDoor
open Go.Vsi
set_option maxHeartbeats 4000000
attribute [local irreducible] VW VCall VO bits

/-! ### the law TruthEqual -/
structure Fm.GI (f : Fm) : Prop where
  good : f.Good
  inl : f.In lets
theorem Fm.Mid.gi {f : Fm} (h : f.Mid) : f.GI := ⟨h.good, h.nice.inl⟩
theorem Fm.Mid.n1 {f : Fm} {m : Nat} (h : f.Nice) (h1 : f.nodes ≤ m) (h2 : f.depth ≤ m) (hm : m ≤ 40) : f.Mid := ⟨h, by omega, by omega⟩
theorem not_c (f : Fm) (H : Heap) : VDet Tryd.prog 23 [.agg f.cells] H (.agg (Fm.f1 3 f).cells) := by
  have j3 : ∀ H, VDet Tryd.prog 16 [.int .u8 3, .sx 1 f.cells] H (.agg (Fm.f1 3 f).cells) := fun H => VDet.wk (join1_c 3 f H) ⟨Wk.refl _, wk_sx _ _, trivial⟩
  refine fn_det Tryd.E0 Tryd.mx Tryd.func23 (by kernel_rfl) rfl (Nat.le_of_ble_eq_true rfl) rfl fun hcl hbl => ?_
  (repeat' ((conv => whnf); (first | (refine CallN.id ?_; first | refine CallN.det _ (j3 _) ?_ | fail) | refine DrawN.mk' [] ?_ | fail))); all_goals (conv => whnf)
  exact EndN.det (by simp [Fm.cells, below, belowL, Fm.sc_below]) (Wk.refl _)
theorem is_c (f g : Fm) (hf : f.GI) (hg : g.GI) (H : Heap) : VDet Tryd.prog 24 [.agg f.cells, .agg g.cells] H (.bool (eqAll f g)) := by
  have h1 := equal_c f g hf.good hg.good (names_12 _ (by simp [hf.inl, hg.inl]))
  generalize eqAll f g = b at *
  refine fn_det Tryd.E0 Tryd.mx Tryd.func24 (by kernel_rfl) rfl (Nat.le_of_ble_eq_true rfl) rfl fun hcl hbl => ?_
  (repeat' ((conv => whnf); (first | (refine IfN.id ?_; first | (refine IfN.mk ?_ ?_ <;> intro _) | fail) | (refine CallN.id ?_; first | refine CallN.det _ (h1 _) ?_ | fail) | refine DrawN.mk' [] ?_ | fail))); all_goals (conv => whnf)
  all_goals exact EndN.det trivial (Wk.of_eq (by simp_all))
theorem wk2 (a b : Fm) : Wk (.sx 2 (a.cells ++ b.cells)) (.sl none 2 (a.cells ++ b.cells)) := wk_sx _ _
theorem jn2 (k : Nat) (a b : Fm) (H : Heap) : VDet Tryd.prog 16 [.int .u8 k, .sx 2 (a.cells ++ b.cells)] H (.agg (Fm.f2 k a b).cells) := VDet.wk (join2_c k a b H) ⟨Wk.refl _, wk_sx _ _, trivial⟩
theorem eqAll_of {f g : Fm} (h : ∀ r, f.ev r = g.ev r) : eqAll f g = true := (eqAll_iff f g).2 h
theorem equal_law (l m n : List Nat) (hl : l.length ≤ 9223372036854775807) (hb : ∀ i, i < l.length → l.getD i 0 ≤ 255) (hm : m.length ≤ 9223372036854775807) (hc : ∀ i, i < m.length → m.getD i 0 ≤ 255) (hn : n.length ≤ 9223372036854775807) (hd : ∀ i, i < n.length → n.getD i 0 ≤ 255) (H : Heap) :
    VDet Tryd.prog 8 [.sl none l.length (l.flatMap encB), .sl none m.length (m.flatMap encB), .sl none n.length (n.flatMap encB)] H (.bool true) := by
  have b1 := built_take l 9 hb (by omega)
  have b2 := built_take m 9 hc (by omega)
  have b3 := built_take n 9 hd (by omega)
  have z1 := blt12 l 9
  have z2 := blt12 m 9
  have z3 := blt12 n 9
  generalize bltF (l.take 9) = f at *
  generalize bltF (m.take 9) = g at *
  generalize bltF (n.take 9) = h at *
  have n1 := z1.nodes
  have n2 := z2.nodes
  have n3 := z3.nodes
  have d1 := z1.depth
  have d2 := z2.depth
  have d3 := z3.depth
  have mf : f.Mid := ⟨z1.nice, by omega, by omega⟩
  have mg : g.Mid := ⟨z2.nice, by omega, by omega⟩
  have mh : h.Mid := ⟨z3.nice, by omega, by omega⟩
  have mnf : (Fm.f1 3 f).Mid := ⟨nice_1 z1.nice, by simp only [Fm.nodes]; omega, by simp only [Fm.depth]; omega⟩
  have mng : (Fm.f1 3 g).Mid := ⟨nice_1 z2.nice, by simp only [Fm.nodes]; omega, by simp only [Fm.depth]; omega⟩
  have mnnf : (Fm.f1 3 (.f1 3 f)).Mid := ⟨nice_1 mnf.nice, by simp only [Fm.nodes]; omega, by simp only [Fm.depth]; omega⟩
  have m2 : ∀ a b : Fm, ∀ k, (k = 4 ∨ k = 5 ∨ k = 6 ∨ k = 7) → a.Nice → b.Nice → a.nodes ≤ 60 → b.nodes ≤ 60 → a.depth ≤ 20 → b.depth ≤ 20 → (Fm.f2 k a b).Mid := fun a b k hk ha hb p1 p2 p3 p4 => ⟨nice_2 ha hb k hk, by simp only [Fm.nodes]; omega, by simp only [Fm.depth]; omega⟩
  have mimp : (Fm.f2 6 f g).Mid := m2 f g 6 (by omega) z1.nice z2.nice (by omega) (by omega) (by omega) (by omega)
  have mimp' : (Fm.f2 6 g f).Mid := m2 g f 6 (by omega) z2.nice z1.nice (by omega) (by omega) (by omega) (by omega)
  have mand : (Fm.f2 4 f g).Mid := m2 f g 4 (by omega) z1.nice z2.nice (by omega) (by omega) (by omega) (by omega)
  have mor : (Fm.f2 5 f g).Mid := m2 f g 5 (by omega) z1.nice z2.nice (by omega) (by omega) (by omega) (by omega)
  have miff : (Fm.f2 7 f g).Mid := m2 f g 7 (by omega) z1.nice z2.nice (by omega) (by omega) (by omega) (by omega)
  have monf : (Fm.f2 5 (.f1 3 f) g).Mid := m2 _ _ 5 (by omega) mnf.nice z2.nice (by simp only [Fm.nodes]; omega) (by omega) (by simp only [Fm.depth]; omega) (by omega)
  have monn : (Fm.f2 5 (.f1 3 f) (.f1 3 g)).Mid := m2 _ _ 5 (by omega) mnf.nice mng.nice (by simp only [Fm.nodes]; omega) (by simp only [Fm.nodes]; omega) (by simp only [Fm.depth]; omega) (by simp only [Fm.depth]; omega)
  have mann : (Fm.f2 4 (.f1 3 f) (.f1 3 g)).Mid := m2 _ _ 4 (by omega) mnf.nice mng.nice (by simp only [Fm.nodes]; omega) (by simp only [Fm.nodes]; omega) (by simp only [Fm.depth]; omega) (by simp only [Fm.depth]; omega)
  have mnand : (Fm.f1 3 (.f2 4 f g)).Mid := ⟨nice_1 mand.nice, by simp only [Fm.nodes]; omega, by simp only [Fm.depth]; omega⟩
  have mnor : (Fm.f1 3 (.f2 5 f g)).Mid := ⟨nice_1 mor.nice, by simp only [Fm.nodes]; omega, by simp only [Fm.depth]; omega⟩
  have mii : (Fm.f2 4 (.f2 6 f g) (.f2 6 g f)).Mid := m2 _ _ 4 (by omega) mimp.nice mimp'.nice (by simp only [Fm.nodes]; omega) (by simp only [Fm.nodes]; omega) (by simp only [Fm.depth]; omega) (by simp only [Fm.depth]; omega)
  have i1 := is_c f f mf.gi mf.gi
  have i2 := is_c _ f mnnf.gi mf.gi
  have i3 := is_c _ _ mimp.gi monf.gi
  have i4 := is_c _ _ mnand.gi monn.gi
  have i5 := is_c _ _ mnor.gi mann.gi
  have i6 := is_c _ _ miff.gi mii.gi
  have i7 := is_c f g mf.gi mg.gi
  have i8 := is_c g f mg.gi mf.gi
  have i9 := is_c g h mg.gi mh.gi
  have i10 := is_c f h mf.gi mh.gi
  have i11 := is_c (putF 130 f h) (putF 130 g h) ⟨put_good z3 z1 (by omega), (put_nice z1.nice h z3.nice).inl⟩ ⟨put_good z3 z2 (by omega), (put_nice z2.nice h z3.nice).inl⟩
  rw [eqAll_of (fun _ => rfl)] at i1
  rw [eqAll_of (fun r => by simp [Fm.ev])] at i2
  rw [eqAll_of (fun r => by simp [Fm.ev])] at i3
  rw [eqAll_of (fun r => by simp [Fm.ev])] at i4
  rw [eqAll_of (fun r => by simp [Fm.ev])] at i5
  rw [eqAll_of (fun r => by simp only [Fm.ev]; cases f.ev r <;> cases g.ev r <;> rfl)] at i6
  rw [show eqAll g f = eqAll f g from b_eq (by rw [eqAll_iff, eqAll_iff]; exact ⟨fun e r => (e r).symm, fun e r => (e r).symm⟩)] at i8
  have t1 : eqAll f g = true → eqAll g h = true → eqAll f h = true := by
    rw [eqAll_iff, eqAll_iff, eqAll_iff]
    exact fun p q r => (p r).trans (q r)
  have t2 : eqAll f g = true → eqAll (putF 130 f h) (putF 130 g h) = true := by
    rw [eqAll_iff, eqAll_iff]
    intro p r
    rw [ev_put, ev_put, p r]
  have fo : ∀ H, VDet Tryd.prog 15 [.agg [.nils, .sx 1 (Fm.f2 7 f g).cells]] H (.tup [.bool (falV [] [.f2 7 f g]).isNone, .int .i64 0]) := fun H =>
    VDet.wk (fol_c [] [.f2 7 f g] (by simp [miff]) (by simp) H) ⟨wk_agg ⟨wk_nils, wk_row (by simp), trivial⟩, trivial⟩
  rw [show (falV [] [.f2 7 f g]).isNone = eqAll f g from b_eq (by
    rw [isNone_iff, eqAll_iff]
    refine forall_congr' fun r => ?_
    simp only [falR, List.all_cons, List.all_nil, Fm.ev]
    cases f.ev r <;> cases g.ev r <;> simp)] at fo
  have p1 : ∀ H, VDet Tryd.prog 13 [.agg h.cells, .str ⟨#[65]⟩, .agg f.cells] H (.agg (putF 130 f h).cells) := put_c 130 f h z3.nice.pr
  have p2 : ∀ H, VDet Tryd.prog 13 [.agg h.cells, .str ⟨#[65]⟩, .agg g.cells] H (.agg (putF 130 g h).cells) := put_c 130 g h z3.nice.pr
  have nf := not_c f
  have ng := not_c g
  have nnf := not_c (.f1 3 f)
  have nand := not_c (.f2 4 f g)
  have nor := not_c (.f2 5 f g)
  have j1 := jn2 6 f g
  have j2 := jn2 6 g f
  have j3 := jn2 4 f g
  have j4 := jn2 5 f g
  have j5 := jn2 7 f g
  have j6 := jn2 5 (.f1 3 f) g
  have j7 := jn2 5 (.f1 3 f) (.f1 3 g)
  have j8 := jn2 4 (.f1 3 f) (.f1 3 g)
  have j9 := jn2 4 (.f2 6 f g) (.f2 6 g f)
  generalize eqAll f g = e1 at *
  generalize eqAll g h = e2 at *
  generalize eqAll f h = e3 at *
  generalize eqAll (putF 130 f h) (putF 130 g h) = e4 at *
  generalize putF 130 f h = pf at *
  generalize putF 130 g h = pg at *
  clear n1 n2 n3 d1 d2 d3 mf mg mh mnf mng mnnf m2 mimp mimp' mand mor miff monf monn mann mnand mnor mii z1 z2 z3
  refine fn_det Tryd.E0 Tryd.mx Tryd.func8 (by kernel_rfl) rfl (Nat.le_of_ble_eq_true rfl) rfl fun hcl hbl => ?_
  (repeat' ((conv => whnf); (first | (refine IfN.id ?_; first | refine IfN.not ?_ | refine IfN.tt rfl ?_ | refine IfN.dT (by omega) ?_ | refine IfN.dec (fun _ => ?_) (fun _ => ?_) | refine IfN.tt (by assumption) ?_ | refine IfN.ff (by assumption) ?_ | (refine IfN.mk ?_ ?_ <;> intro _) | fail) | (refine SideN.mk ?_ ?_; · first | kernel_rfl | omega | exact List.cons_ne_nil _ _ | (simp; done) | (simp; omega) | exact trivial | assumption | fail) | refine NatN.at_ (by omega) ?_ | (refine CallN.id ?_; first | refine CallN.det _ (awake_c _) ?_ | refine CallN.det _ (fo _) ?_ | refine CallN.det _ (j5 _) ?_ | fail) | (refine CallD.id ?_; first | refine CallD.det _ (fun _ hq X => b1 _) ?_ | refine CallD.det _ (fun _ hq X => b2 _) ?_ | refine CallD.det _ (fun _ hq X => b3 _) ?_ | refine CallD.det _ (fun _ hq X => i1 _) ?_ | refine CallD.det _ (fun _ hq X => i2 _) ?_ | refine CallD.det _ (fun _ hq X => i3 _) ?_ | refine CallD.det _ (fun _ hq X => i4 _) ?_ | refine CallD.det _ (fun _ hq X => i5 _) ?_ | refine CallD.det _ (fun _ hq X => i6 _) ?_ | refine CallD.det _ (fun _ hq X => i7 _) ?_ | refine CallD.det _ (fun _ hq X => i8 _) ?_ | refine CallD.det _ (fun _ hq X => i9 _) ?_ | refine CallD.det _ (fun _ hq X => i10 _) ?_ | refine CallD.det _ (fun _ hq X => i11 _) ?_ | refine CallD.det _ (fun _ hq X => p1 _) ?_ | refine CallD.det _ (fun _ hq X => p2 _) ?_ | refine CallD.det _ (fun _ hq X => nf _) ?_ | refine CallD.det _ (fun _ hq X => ng _) ?_ | refine CallD.det _ (fun _ hq X => nnf _) ?_ | refine CallD.det _ (fun _ hq X => nand _) ?_ | refine CallD.det _ (fun _ hq X => nor _) ?_ | refine CallD.det _ (fun _ hq X => j1 _) ?_ | refine CallD.det _ (fun _ hq X => j2 _) ?_ | refine CallD.det _ (fun _ hq X => j3 _) ?_ | refine CallD.det _ (fun _ hq X => j4 _) ?_ | refine CallD.det _ (fun _ hq X => j5 _) ?_ | refine CallD.det _ (fun _ hq X => j6 _) ?_ | refine CallD.det _ (fun _ hq X => j7 _) ?_ | refine CallD.det _ (fun _ hq X => j8 _) ?_ | refine CallD.det _ (fun _ hq X => j9 _) ?_ | fail) | refine SubN.flat (lo := 0) (n := (min ((l.length : Nat) : Int) 9).toNat - 0) (fun _ => rfl) (by omega) ?_ | refine SubN.flat (lo := 0) (n := (min ((m.length : Nat) : Int) 9).toNat - 0) (fun _ => rfl) (by omega) ?_ | refine SubN.flat (lo := 0) (n := (min ((n.length : Nat) : Int) 9).toNat - 0) (fun _ => rfl) (by omega) ?_ | refine DrawN.mk' [] ?_ | fail))); all_goals (conv => whnf)
  all_goals
    refine EndN.det trivial (Wk.of_eq (congrArg AV.bool ?_))
    clear b1 b2 b3 i1 i2 i3 i4 i5 i6 i7 i8 i9 i10 i11 fo p1 p2 nf ng nnf nand nor j1 j2 j3 j4 j5 j6 j7 j8 j9
    simp_all

end Go.Proofs.YtekhodpmpjehaaaDoor
/-! text SC10 -/
namespace Go.Proofs.YtekhodpmpjehaaaDoor
open Go.Vsi
set_option maxHeartbeats 2000000

/-! ### what is no formula of propositional logic: syntax.Right and truth.Right -/
structure It where
  op : Nat
  nm : ByteArray
  an : Nat
  al : List AV
  sn : Nat
  sl : List AV
def It.cells (x : It) : List AV := [.int .u8 x.op, .str x.nm, .sl none x.an x.al, .sl none x.sn x.sl]
def FormG (cells : List AV) (nodes depth : Nat) (r : Bool) : Prop := ∀ (H : Heap) (i L d : Nat), H[i]? = some (jb L) → nodes ≤ L ∧ L ≤ 400 → d + depth ≤ 41 → VCall Tryd.prog 51 [.ptr i 0, .agg cells, .int .i64 d] H (setR H i (jb (L - nodes)) (.bool r))
/-- the conjunction of a formula and something else -/
def andC (f : Fm) (x : It) : List AV := [.int .u8 (4 : Nat), .str .empty, .sl none 0 [], .sl none 2 (f.cells ++ x.cells)]
attribute [local irreducible] VW VCall VO bits
theorem form_and (f : Fm) (x : It) {k dp : Nat} {r : Bool} (iha : FormIH f) (hk : 1 ≤ k) (hdp : 1 ≤ dp) (ihb : FormG x.cells k dp r) : FormG (andC f x) (f.nodes + k + 1) (max f.depth dp + 1) r := by
  intro H i L d hi hL hd
  have hp := f.nodes_pos
  have hpd := f.depth_pos
  have hn := fun X => node_c (H ++ X) i L d (at_base' hi) (by omega) (by omega)
  have h1 := fun X => iha (H.set i (jb (L - 1)) ++ X) i (L - 1) (d + 1) (at_base' (at_set hi)) (by omega) (by omega)
  have h2 := fun X => ihb (H.set i (jb (L - 1 - f.nodes)) ++ X) i (L - 1 - f.nodes) (d + 1) (at_base' (at_set hi)) (by omega) (by omega)
  rw [show L - 1 - f.nodes - k = L - (f.nodes + k + 1) by omega] at h2
  unfold jb at hi hn h1 h2 ⊢
  rw [show andC f x = [.int .u8 (4 : Nat), .str .empty, .sl none 0 [], .sl none 2 [.int .u8 f.op, .str f.nmB, .sl none 0 [], .sl none f.sn f.sc, .int .u8 x.op, .str x.nm, .sl none x.an x.al, .sl none x.sn x.sl]] from rfl]
  unfold Fm.cells at h1
  unfold It.cells at h2
  obtain ⟨bo, bn, ban, bal, bsn, bsl⟩ := x
  simp only at h2 ⊢
  generalize f.op = ao at h1 ⊢
  generalize f.nmB = an at h1 ⊢
  generalize f.sn = asn at h1 ⊢
  generalize f.sc = asc at h1 ⊢
  cases r with
  | true =>
    refine fn_gen Tryd.E0 Tryd.mx Tryd.func51 (by kernel_rfl) rfl (Nat.le_of_ble_eq_true rfl) rfl fun hcl hbl => ?_
    (repeat' ((conv => whnf); (first | (refine IfN.id ?_; first | refine IfN.not ?_ | refine IfN.tt rfl ?_ | refine IfN.ff rfl ?_ | fail) | (refine EqN.id ?_; first | (refine EqN.addN _ _ (by first | with_reducible rfl | with_reducible exact cst1 | with_reducible exact cst0 | with_reducible exact cst2 | with_reducible exact cst3 | with_reducible exact cst4 | with_reducible exact cst5 | with_reducible exact cst6 | with_reducible exact cst7 | with_reducible exact cst8 | with_reducible exact cst14 | with_reducible exact cst15 | with_reducible exact cst25 | with_reducible exact cst30 | with_reducible exact cst31 | fail) (by first | with_reducible rfl | with_reducible exact cst1 | with_reducible exact cst0 | with_reducible exact cst2 | with_reducible exact cst3 | with_reducible exact cst4 | with_reducible exact cst5 | with_reducible exact cst6 | with_reducible exact cst7 | with_reducible exact cst8 | with_reducible exact cst14 | with_reducible exact cst15 | with_reducible exact cst25 | with_reducible exact cst30 | with_reducible exact cst31 | fail) ?_ ?_; · (repeat' (first | omega | refine And.intro ?_ ?_ | exact bnd_andl (by omega) | exact bnd_andr (by omega) | refine bnd_or ?_ ?_ | refine bnd_or31 ?_ ?_ | refine bnd_xor ?_ ?_ | refine bnd_xor31 ?_ ?_ | refine bnd_shr ?_ | refine bnd_shl ?_ ?_ | refine bnd_mod ?_ | refine bnd_andl ?_ | fail))) | refine EqN.remN _ _ (by first | with_reducible rfl | with_reducible exact cst1 | with_reducible exact cst0 | with_reducible exact cst2 | with_reducible exact cst3 | with_reducible exact cst4 | with_reducible exact cst5 | with_reducible exact cst6 | with_reducible exact cst7 | with_reducible exact cst8 | with_reducible exact cst14 | with_reducible exact cst15 | with_reducible exact cst25 | with_reducible exact cst30 | with_reducible exact cst31 | fail) (by first | with_reducible rfl | with_reducible exact cst1 | with_reducible exact cst0 | with_reducible exact cst2 | with_reducible exact cst3 | with_reducible exact cst4 | with_reducible exact cst5 | with_reducible exact cst6 | with_reducible exact cst7 | with_reducible exact cst8 | with_reducible exact cst14 | with_reducible exact cst15 | with_reducible exact cst25 | with_reducible exact cst30 | with_reducible exact cst31 | fail) ?_ | fail) | (refine SideN.mk ?_ ?_; · first | kernel_rfl | omega | exact List.cons_ne_nil _ _ | (simp; done) | (simp; omega) | exact trivial | assumption | fail) | (refine CallN.id ?_; first | refine CallN.det _ (named0_c _) ?_ | refine CallN.det _ (terms_c _ _ _) ?_ | fail) | refine CallN.setB i _ _ _ _ hi rfl rfl (hn _) rfl ?_ | refine SegN.mk _ (seg_rfl rfl) ?_ | refine DrawN.mk' [] ?_ | fail))); all_goals (conv => whnf)
    refine LoopN.rounds Tryd.E0 Tryd.mx 3 (by simp) ?_
    (repeat' ((conv => whnf); (first | (refine IfN.id ?_; first | refine IfN.not ?_ | refine IfN.tt rfl ?_ | refine IfN.ff rfl ?_ | fail) | (refine EqN.id ?_; first | (refine EqN.addN _ _ (by first | with_reducible rfl | with_reducible exact cst1 | with_reducible exact cst0 | with_reducible exact cst2 | with_reducible exact cst3 | with_reducible exact cst4 | with_reducible exact cst5 | with_reducible exact cst6 | with_reducible exact cst7 | with_reducible exact cst8 | with_reducible exact cst14 | with_reducible exact cst15 | with_reducible exact cst25 | with_reducible exact cst30 | with_reducible exact cst31 | fail) (by first | with_reducible rfl | with_reducible exact cst1 | with_reducible exact cst0 | with_reducible exact cst2 | with_reducible exact cst3 | with_reducible exact cst4 | with_reducible exact cst5 | with_reducible exact cst6 | with_reducible exact cst7 | with_reducible exact cst8 | with_reducible exact cst14 | with_reducible exact cst15 | with_reducible exact cst25 | with_reducible exact cst30 | with_reducible exact cst31 | fail) ?_ ?_; · (repeat' (first | omega | refine And.intro ?_ ?_ | exact bnd_andl (by omega) | exact bnd_andr (by omega) | refine bnd_or ?_ ?_ | refine bnd_or31 ?_ ?_ | refine bnd_xor ?_ ?_ | refine bnd_xor31 ?_ ?_ | refine bnd_shr ?_ | refine bnd_shl ?_ ?_ | refine bnd_mod ?_ | refine bnd_andl ?_ | fail))) | fail) | (refine SideN.mk ?_ ?_; · first | kernel_rfl | omega | exact List.cons_ne_nil _ _ | (simp; done) | (simp; omega) | exact trivial | assumption | fail) | refine CallN.setB i _ _ _ _ (at_set hi) (by simp) rfl (h1 _) (List.set_set ..) ?_ | refine CallN.setB i _ _ _ _ (at_set hi) (by simp) rfl (h2 _) (List.set_set ..) ?_ | refine SegN.mk _ (seg_rfl rfl) ?_ | refine DrawN.mk' [] ?_ | fail))); all_goals (conv => whnf)
    exact EndN.setB (by simp [Blk.below, belowL, below]) trivial (Wk.refl _)
  | false =>
    refine fn_gen Tryd.E0 Tryd.mx Tryd.func51 (by kernel_rfl) rfl (Nat.le_of_ble_eq_true rfl) rfl fun hcl hbl => ?_
    (repeat' ((conv => whnf); (first | (refine IfN.id ?_; first | refine IfN.not ?_ | refine IfN.tt rfl ?_ | refine IfN.ff rfl ?_ | fail) | (refine EqN.id ?_; first | (refine EqN.addN _ _ (by first | with_reducible rfl | with_reducible exact cst1 | with_reducible exact cst0 | with_reducible exact cst2 | with_reducible exact cst3 | with_reducible exact cst4 | with_reducible exact cst5 | with_reducible exact cst6 | with_reducible exact cst7 | with_reducible exact cst8 | with_reducible exact cst14 | with_reducible exact cst15 | with_reducible exact cst25 | with_reducible exact cst30 | with_reducible exact cst31 | fail) (by first | with_reducible rfl | with_reducible exact cst1 | with_reducible exact cst0 | with_reducible exact cst2 | with_reducible exact cst3 | with_reducible exact cst4 | with_reducible exact cst5 | with_reducible exact cst6 | with_reducible exact cst7 | with_reducible exact cst8 | with_reducible exact cst14 | with_reducible exact cst15 | with_reducible exact cst25 | with_reducible exact cst30 | with_reducible exact cst31 | fail) ?_ ?_; · (repeat' (first | omega | refine And.intro ?_ ?_ | exact bnd_andl (by omega) | exact bnd_andr (by omega) | refine bnd_or ?_ ?_ | refine bnd_or31 ?_ ?_ | refine bnd_xor ?_ ?_ | refine bnd_xor31 ?_ ?_ | refine bnd_shr ?_ | refine bnd_shl ?_ ?_ | refine bnd_mod ?_ | refine bnd_andl ?_ | fail))) | refine EqN.remN _ _ (by first | with_reducible rfl | with_reducible exact cst1 | with_reducible exact cst0 | with_reducible exact cst2 | with_reducible exact cst3 | with_reducible exact cst4 | with_reducible exact cst5 | with_reducible exact cst6 | with_reducible exact cst7 | with_reducible exact cst8 | with_reducible exact cst14 | with_reducible exact cst15 | with_reducible exact cst25 | with_reducible exact cst30 | with_reducible exact cst31 | fail) (by first | with_reducible rfl | with_reducible exact cst1 | with_reducible exact cst0 | with_reducible exact cst2 | with_reducible exact cst3 | with_reducible exact cst4 | with_reducible exact cst5 | with_reducible exact cst6 | with_reducible exact cst7 | with_reducible exact cst8 | with_reducible exact cst14 | with_reducible exact cst15 | with_reducible exact cst25 | with_reducible exact cst30 | with_reducible exact cst31 | fail) ?_ | fail) | (refine SideN.mk ?_ ?_; · first | kernel_rfl | omega | exact List.cons_ne_nil _ _ | (simp; done) | (simp; omega) | exact trivial | assumption | fail) | (refine CallN.id ?_; first | refine CallN.det _ (named0_c _) ?_ | refine CallN.det _ (terms_c _ _ _) ?_ | fail) | refine CallN.setB i _ _ _ _ hi rfl rfl (hn _) rfl ?_ | refine SegN.mk _ (seg_rfl rfl) ?_ | refine DrawN.mk' [] ?_ | fail))); all_goals (conv => whnf)
    refine LoopN.rounds Tryd.E0 Tryd.mx 3 (by simp) ?_
    (repeat' ((conv => whnf); (first | (refine IfN.id ?_; first | refine IfN.not ?_ | refine IfN.tt rfl ?_ | refine IfN.ff rfl ?_ | fail) | (refine EqN.id ?_; first | (refine EqN.addN _ _ (by first | with_reducible rfl | with_reducible exact cst1 | with_reducible exact cst0 | with_reducible exact cst2 | with_reducible exact cst3 | with_reducible exact cst4 | with_reducible exact cst5 | with_reducible exact cst6 | with_reducible exact cst7 | with_reducible exact cst8 | with_reducible exact cst14 | with_reducible exact cst15 | with_reducible exact cst25 | with_reducible exact cst30 | with_reducible exact cst31 | fail) (by first | with_reducible rfl | with_reducible exact cst1 | with_reducible exact cst0 | with_reducible exact cst2 | with_reducible exact cst3 | with_reducible exact cst4 | with_reducible exact cst5 | with_reducible exact cst6 | with_reducible exact cst7 | with_reducible exact cst8 | with_reducible exact cst14 | with_reducible exact cst15 | with_reducible exact cst25 | with_reducible exact cst30 | with_reducible exact cst31 | fail) ?_ ?_; · (repeat' (first | omega | refine And.intro ?_ ?_ | exact bnd_andl (by omega) | exact bnd_andr (by omega) | refine bnd_or ?_ ?_ | refine bnd_or31 ?_ ?_ | refine bnd_xor ?_ ?_ | refine bnd_xor31 ?_ ?_ | refine bnd_shr ?_ | refine bnd_shl ?_ ?_ | refine bnd_mod ?_ | refine bnd_andl ?_ | fail))) | fail) | (refine SideN.mk ?_ ?_; · first | kernel_rfl | omega | exact List.cons_ne_nil _ _ | (simp; done) | (simp; omega) | exact trivial | assumption | fail) | refine CallN.setB i _ _ _ _ (at_set hi) (by simp) rfl (h1 _) (List.set_set ..) ?_ | refine CallN.setB i _ _ _ _ (at_set hi) (by simp) rfl (h2 _) (List.set_set ..) ?_ | refine SegN.mk _ (seg_rfl rfl) ?_ | refine DrawN.mk' [] ?_ | fail))); all_goals (conv => whnf)
    exact EndN.setB (by simp [Blk.below, belowL, below]) trivial (Wk.refl _)
/-- a variable -/
theorem varfirst_x (H : Heap) : VDet Tryd.prog 94 [.int .u8 120] H (.bool true) := by
  refine fn_det Tryd.E0 Tryd.mx Tryd.func94 (by kernel_rfl) rfl (Nat.le_of_ble_eq_true rfl) rfl fun hcl hbl => ?_
  (repeat' ((conv => whnf); (first | (refine IfN.id ?_; first | refine IfN.tt rfl ?_ | fail) | refine DrawN.mk' [] ?_ | fail))); all_goals (conv => whnf)
  exact EndN.det trivial (Wk.refl _)
theorem reserved_s (s : ByteArray) (h1 : (s.toList == (ByteArray.mk #[97, 108, 108]).toList) = false) (h2 : (s.toList == (ByteArray.mk #[115, 111, 109, 101]).toList) = false) (h3 : (s.toList == (ByteArray.mk #[102, 97, 108, 115, 101]).toList) = false) (h4 : (s.toList == (ByteArray.mk #[110, 101, 120, 116]).toList) = false) (h5 : (s.toList == (ByteArray.mk #[97, 108, 119, 97, 121, 115]).toList) = false) (h6 : (s.toList == (ByteArray.mk #[117, 110, 116, 105, 108]).toList) = false) (H : Heap) : VDet Tryd.prog 81 [.str s] H (.bool false) := by
  refine fn_det Tryd.E0 Tryd.mx Tryd.func81 (by kernel_rfl) rfl (Nat.le_of_ble_eq_true rfl) rfl fun hcl hbl => ?_
  (repeat' ((conv => whnf); (first | (refine IfN.id ?_; first | refine IfN.ff h1 ?_ | refine IfN.ff h2 ?_ | refine IfN.ff h3 ?_ | refine IfN.ff h4 ?_ | refine IfN.ff h5 ?_ | refine IfN.ff h6 ?_ | fail) | refine DrawN.mk' [] ?_ | fail))); all_goals (conv => whnf)
  exact EndN.det trivial (Wk.refl _)
theorem checker2_c (H : Heap) : VDet Tryd.prog 62 [.clo (.func 94) [] [], .clo (.func 83) [] []] H (.clo (.func 80) [] [.rptr [.clo (.func 94) [] []], .rptr [.clo (.func 83) [] []]]) := by
  refine fn_det Tryd.E0 Tryd.mx Tryd.func62 (by kernel_rfl) rfl (Nat.le_of_ble_eq_true rfl) rfl fun hcl hbl => ?_
  (repeat' ((conv => whnf); (first | refine DrawN.mk' [] ?_ | fail))); all_goals (conv => whnf)
  refine EndN.detF ?_ ?_ (Wk.refl _)
  · simp [below, belowL, fnBelow]
  · repeat' (first | exact FrzL.nil | refine FrzL.cons ?_ ?_ | refine Frz.sx ?_ | refine Frz.clo ?_ ?_ | refine Frz.agg ?_ | refine Frz.tup ?_ | refine Frz.ptr rfl rfl (FrzL.refl _) | refine Frz.ms (by exact rfl) (by exact rfl) (FrzL.refl _) | exact Frz.refl _ | fail)
theorem checker3_c (H : Heap) : VDet Tryd.prog 62 [.clo (.func 99) [] [], .clo (.func 64) [] []] H (.clo (.func 80) [] [.rptr [.clo (.func 99) [] []], .rptr [.clo (.func 64) [] []]]) := by
  refine fn_det Tryd.E0 Tryd.mx Tryd.func62 (by kernel_rfl) rfl (Nat.le_of_ble_eq_true rfl) rfl fun hcl hbl => ?_
  (repeat' ((conv => whnf); (first | refine DrawN.mk' [] ?_ | fail))); all_goals (conv => whnf)
  refine EndN.detF ?_ ?_ (Wk.refl _)
  · simp [below, belowL, fnBelow]
  · repeat' (first | exact FrzL.nil | refine FrzL.cons ?_ ?_ | refine Frz.sx ?_ | refine Frz.clo ?_ ?_ | refine Frz.agg ?_ | refine Frz.tup ?_ | refine Frz.ptr rfl rfl (FrzL.refl _) | refine Frz.ms (by exact rfl) (by exact rfl) (FrzL.refl _) | exact Frz.refl _ | fail)
theorem check_x (H : Heap) : VDet Tryd.prog 80 [.str ⟨#[120]⟩, .rptr [.clo (.func 94) [] []], .rptr [.clo (.func 83) [] []]] H (.bool true) := by
  have hr := reserved_s ⟨#[120]⟩ (by rw [ByteArray.toList_eq, ByteArray.toList_eq]; decide) (by rw [ByteArray.toList_eq, ByteArray.toList_eq]; decide) (by rw [ByteArray.toList_eq, ByteArray.toList_eq]; decide) (by rw [ByteArray.toList_eq, ByteArray.toList_eq]; decide) (by rw [ByteArray.toList_eq, ByteArray.toList_eq]; decide) (by rw [ByteArray.toList_eq, ByteArray.toList_eq]; decide)
  refine fn_det Tryd.E0 Tryd.mx Tryd.func80 (by kernel_rfl) rfl (Nat.le_of_ble_eq_true rfl) rfl fun hcl hbl => ?_
  (repeat' ((conv => whnf); (first | (refine IfN.id ?_; first | refine IfN.not ?_ | refine IfN.tt rfl ?_ | refine IfN.ff rfl ?_ | fail) | (refine SideN.mk ?_ ?_; · first | kernel_rfl | omega | exact List.cons_ne_nil _ _ | (simp; done) | (simp; omega) | exact trivial | assumption | fail) | (refine CallD.id ?_; first | refine CallD.det _ (fun _ hq X => hr _) ?_ | refine CallD.det _ (fun _ hq X => varfirst_x _) ?_ | fail) | refine ByteN.mk 120 rfl ?_ | refine DrawN.mk' [] ?_ | fail))); all_goals (conv => whnf)
  refine LoopN.rounds Tryd.E0 Tryd.mx 2 rfl ?_
  (repeat' ((conv => whnf); (first | (refine IfN.id ?_; first | refine IfN.ff rfl ?_ | fail) | refine DrawN.mk' [] ?_ | fail))); all_goals (conv => whnf)
  exact EndN.det trivial (Wk.refl _)
theorem variable_x (H : Heap) : VDet Tryd.prog 84 [.str ⟨#[120]⟩] H (.bool true) := by
  refine fn_det Tryd.E0 Tryd.mx Tryd.func84 (by kernel_rfl) rfl (Nat.le_of_ble_eq_true rfl) rfl fun hcl hbl => ?_
  (repeat' ((conv => whnf); (first | (refine CallN.id ?_; first | refine CallN.det _ (checker2_c _) ?_ | refine CallN.det _ (check_x _) ?_ | fail) | refine DrawN.mk' [] ?_ | fail))); all_goals (conv => whnf)
  exact EndN.det trivial (Wk.refl _)
theorem named2_x (H : Heap) : VDet Tryd.prog 66 [.int .u8 2, .str ⟨#[120]⟩] H (.bool true) := by
  refine fn_det Tryd.E0 Tryd.mx Tryd.func66 (by kernel_rfl) rfl (Nat.le_of_ble_eq_true rfl) rfl fun hcl hbl => ?_
  (repeat' ((conv => whnf); (first | (refine IfN.id ?_; first | refine IfN.tt rfl ?_ | refine IfN.ff rfl ?_ | fail) | (refine CallN.id ?_; first | refine CallN.det _ (variable_x _) ?_ | fail) | refine DrawN.mk' [] ?_ | fail))); all_goals (conv => whnf)
  exact EndN.det trivial (Wk.refl _)
def allI (f : Fm) : It := ⟨8, ⟨#[120]⟩, 0, [], 1, f.cells⟩
theorem form_all (f : Fm) (ih : FormIH f) : FormG (allI f).cells (f.nodes + 1) (f.depth + 1) true := by
  intro H i L d hi hL hd
  have hp := f.nodes_pos
  have hpd := f.depth_pos
  have hn := fun X => node_c (H ++ X) i L d (at_base' hi) (by omega) (by omega)
  have h1 := fun X => ih (H.set i (jb (L - 1)) ++ X) i (L - 1) (d + 1) (at_base' (at_set hi)) (by omega) (by omega)
  rw [show L - 1 - f.nodes = L - (f.nodes + 1) by omega] at h1
  unfold jb at hi hn h1 ⊢
  rw [show (allI f).cells = [.int .u8 (8 : Nat), .str ⟨#[120]⟩, .sl none 0 [], .sl none 1 [.int .u8 f.op, .str f.nmB, .sl none 0 [], .sl none f.sn f.sc]] from rfl]
  unfold Fm.cells at h1
  generalize f.op = ao at h1 ⊢
  generalize f.nmB = an at h1 ⊢
  generalize f.sn = asn at h1 ⊢
  generalize f.sc = asc at h1 ⊢
  refine fn_gen Tryd.E0 Tryd.mx Tryd.func51 (by kernel_rfl) rfl (Nat.le_of_ble_eq_true rfl) rfl fun hcl hbl => ?_
  (repeat' ((conv => whnf); (first | (refine IfN.id ?_; first | refine IfN.not ?_ | refine IfN.tt rfl ?_ | refine IfN.ff rfl ?_ | fail) | (refine EqN.id ?_; first | (refine EqN.addN _ _ (by first | with_reducible rfl | with_reducible exact cst1 | with_reducible exact cst0 | with_reducible exact cst2 | with_reducible exact cst3 | with_reducible exact cst4 | with_reducible exact cst5 | with_reducible exact cst6 | with_reducible exact cst7 | with_reducible exact cst8 | with_reducible exact cst14 | with_reducible exact cst15 | with_reducible exact cst25 | with_reducible exact cst30 | with_reducible exact cst31 | fail) (by first | with_reducible rfl | with_reducible exact cst1 | with_reducible exact cst0 | with_reducible exact cst2 | with_reducible exact cst3 | with_reducible exact cst4 | with_reducible exact cst5 | with_reducible exact cst6 | with_reducible exact cst7 | with_reducible exact cst8 | with_reducible exact cst14 | with_reducible exact cst15 | with_reducible exact cst25 | with_reducible exact cst30 | with_reducible exact cst31 | fail) ?_ ?_; · (repeat' (first | omega | refine And.intro ?_ ?_ | exact bnd_andl (by omega) | exact bnd_andr (by omega) | refine bnd_or ?_ ?_ | refine bnd_or31 ?_ ?_ | refine bnd_xor ?_ ?_ | refine bnd_xor31 ?_ ?_ | refine bnd_shr ?_ | refine bnd_shl ?_ ?_ | refine bnd_mod ?_ | refine bnd_andl ?_ | fail))) | refine EqN.remN _ _ (by first | with_reducible rfl | with_reducible exact cst1 | with_reducible exact cst0 | with_reducible exact cst2 | with_reducible exact cst3 | with_reducible exact cst4 | with_reducible exact cst5 | with_reducible exact cst6 | with_reducible exact cst7 | with_reducible exact cst8 | with_reducible exact cst14 | with_reducible exact cst15 | with_reducible exact cst25 | with_reducible exact cst30 | with_reducible exact cst31 | fail) (by first | with_reducible rfl | with_reducible exact cst1 | with_reducible exact cst0 | with_reducible exact cst2 | with_reducible exact cst3 | with_reducible exact cst4 | with_reducible exact cst5 | with_reducible exact cst6 | with_reducible exact cst7 | with_reducible exact cst8 | with_reducible exact cst14 | with_reducible exact cst15 | with_reducible exact cst25 | with_reducible exact cst30 | with_reducible exact cst31 | fail) ?_ | fail) | (refine SideN.mk ?_ ?_; · first | kernel_rfl | omega | exact List.cons_ne_nil _ _ | (simp; done) | (simp; omega) | exact trivial | assumption | fail) | (refine CallN.id ?_; first | refine CallN.det _ (named2_x _) ?_ | refine CallN.det _ (terms_c _ _ _) ?_ | fail) | refine CallN.setB i _ _ _ _ hi rfl rfl (hn _) rfl ?_ | refine SegN.mk _ (seg_rfl rfl) ?_ | refine DrawN.mk' [] ?_ | fail))); all_goals (conv => whnf)
  refine LoopN.rounds Tryd.E0 Tryd.mx 2 (by simp) ?_
  (repeat' ((conv => whnf); (first | (refine IfN.id ?_; first | refine IfN.not ?_ | refine IfN.tt rfl ?_ | refine IfN.ff rfl ?_ | fail) | (refine EqN.id ?_; first | (refine EqN.addN _ _ (by first | with_reducible rfl | with_reducible exact cst1 | with_reducible exact cst0 | with_reducible exact cst2 | with_reducible exact cst3 | with_reducible exact cst4 | with_reducible exact cst5 | with_reducible exact cst6 | with_reducible exact cst7 | with_reducible exact cst8 | with_reducible exact cst14 | with_reducible exact cst15 | with_reducible exact cst25 | with_reducible exact cst30 | with_reducible exact cst31 | fail) (by first | with_reducible rfl | with_reducible exact cst1 | with_reducible exact cst0 | with_reducible exact cst2 | with_reducible exact cst3 | with_reducible exact cst4 | with_reducible exact cst5 | with_reducible exact cst6 | with_reducible exact cst7 | with_reducible exact cst8 | with_reducible exact cst14 | with_reducible exact cst15 | with_reducible exact cst25 | with_reducible exact cst30 | with_reducible exact cst31 | fail) ?_ ?_; · (repeat' (first | omega | refine And.intro ?_ ?_ | exact bnd_andl (by omega) | exact bnd_andr (by omega) | refine bnd_or ?_ ?_ | refine bnd_or31 ?_ ?_ | refine bnd_xor ?_ ?_ | refine bnd_xor31 ?_ ?_ | refine bnd_shr ?_ | refine bnd_shl ?_ ?_ | refine bnd_mod ?_ | refine bnd_andl ?_ | fail))) | fail) | (refine SideN.mk ?_ ?_; · first | kernel_rfl | omega | exact List.cons_ne_nil _ _ | (simp; done) | (simp; omega) | exact trivial | assumption | fail) | refine CallN.setB i _ _ _ _ (at_set hi) (by simp) rfl (h1 _) (List.set_set ..) ?_ | refine SegN.mk _ (seg_rfl rfl) ?_ | refine DrawN.mk' [] ?_ | fail))); all_goals (conv => whnf)
  exact EndN.setB (by simp [Blk.below, belowL, below]) trivial (Wk.refl _)
def metI : It := ⟨15, ⟨#[63, 65]⟩, 0, [], 0, []⟩
theorem form_met : FormG metI.cells 1 1 false := by
  intro H i L d hi hL hd
  have hn := fun X => node_c (H ++ X) i L d (at_base' hi) (by omega) (by omega)
  unfold jb at hi hn ⊢
  rw [show metI.cells = [.int .u8 (15 : Nat), .str ⟨#[63, 65]⟩, .sl none 0 [], .sl none 0 []] from rfl]
  refine fn_gen Tryd.E0 Tryd.mx Tryd.func51 (by kernel_rfl) rfl (Nat.le_of_ble_eq_true rfl) rfl fun hcl hbl => ?_
  (repeat' ((conv => whnf); (first | (refine IfN.id ?_; first | refine IfN.not ?_ | refine IfN.tt rfl ?_ | refine IfN.ff rfl ?_ | fail) | (refine EqN.id ?_; first | refine EqN.remN _ _ (by first | with_reducible rfl | with_reducible exact cst1 | with_reducible exact cst0 | with_reducible exact cst2 | with_reducible exact cst3 | with_reducible exact cst4 | with_reducible exact cst5 | with_reducible exact cst6 | with_reducible exact cst7 | with_reducible exact cst8 | with_reducible exact cst14 | with_reducible exact cst15 | with_reducible exact cst25 | with_reducible exact cst30 | with_reducible exact cst31 | fail) (by first | with_reducible rfl | with_reducible exact cst1 | with_reducible exact cst0 | with_reducible exact cst2 | with_reducible exact cst3 | with_reducible exact cst4 | with_reducible exact cst5 | with_reducible exact cst6 | with_reducible exact cst7 | with_reducible exact cst8 | with_reducible exact cst14 | with_reducible exact cst15 | with_reducible exact cst25 | with_reducible exact cst30 | with_reducible exact cst31 | fail) ?_ | fail) | (refine SideN.mk ?_ ?_; · first | kernel_rfl | omega | exact List.cons_ne_nil _ _ | (simp; done) | (simp; omega) | exact trivial | assumption | fail) | refine CallN.setB i _ _ _ _ hi rfl rfl (hn _) rfl ?_ | (refine PtrN.id ?_; first | refine PtrN.base _ (by (repeat' (first | assumption | exact at_loc' _ rfl | exact at_loc0 rfl | refine at_set (B' := ?_) ?_ | refine at_base' ?_ | fail))) ?_ | fail) | refine SegN.mk _ (seg_rfl rfl) ?_ | refine DrawN.mk' [] ?_ | fail))); all_goals (conv => whnf)
  exact EndN.setB (by simp [Blk.below, belowL, below]) trivial (Wk.refl _)
/-- a function -/
theorem funfirst_a (H : Heap) : VDet Tryd.prog 99 [.int .u8 97] H (.bool true) := by
  refine fn_det Tryd.E0 Tryd.mx Tryd.func99 (by kernel_rfl) rfl (Nat.le_of_ble_eq_true rfl) rfl fun hcl hbl => ?_
  (repeat' ((conv => whnf); (first | (refine IfN.id ?_; first | refine IfN.tt rfl ?_ | fail) | refine DrawN.mk' [] ?_ | fail))); all_goals (conv => whnf)
  exact EndN.det trivial (Wk.refl _)
theorem check_a (H : Heap) : VDet Tryd.prog 80 [.str ⟨#[97]⟩, .rptr [.clo (.func 99) [] []], .rptr [.clo (.func 64) [] []]] H (.bool true) := by
  have hr := reserved_s ⟨#[97]⟩ (by rw [ByteArray.toList_eq, ByteArray.toList_eq]; decide) (by rw [ByteArray.toList_eq, ByteArray.toList_eq]; decide) (by rw [ByteArray.toList_eq, ByteArray.toList_eq]; decide) (by rw [ByteArray.toList_eq, ByteArray.toList_eq]; decide) (by rw [ByteArray.toList_eq, ByteArray.toList_eq]; decide) (by rw [ByteArray.toList_eq, ByteArray.toList_eq]; decide)
  refine fn_det Tryd.E0 Tryd.mx Tryd.func80 (by kernel_rfl) rfl (Nat.le_of_ble_eq_true rfl) rfl fun hcl hbl => ?_
  (repeat' ((conv => whnf); (first | (refine IfN.id ?_; first | refine IfN.not ?_ | refine IfN.tt rfl ?_ | refine IfN.ff rfl ?_ | fail) | (refine SideN.mk ?_ ?_; · first | kernel_rfl | omega | exact List.cons_ne_nil _ _ | (simp; done) | (simp; omega) | exact trivial | assumption | fail) | (refine CallD.id ?_; first | refine CallD.det _ (fun _ hq X => hr _) ?_ | refine CallD.det _ (fun _ hq X => funfirst_a _) ?_ | fail) | refine ByteN.mk 97 rfl ?_ | refine DrawN.mk' [] ?_ | fail))); all_goals (conv => whnf)
  refine LoopN.rounds Tryd.E0 Tryd.mx 2 rfl ?_
  (repeat' ((conv => whnf); (first | (refine IfN.id ?_; first | refine IfN.ff rfl ?_ | fail) | refine DrawN.mk' [] ?_ | fail))); all_goals (conv => whnf)
  exact EndN.det trivial (Wk.refl _)
theorem function_a (H : Heap) : VDet Tryd.prog 96 [.str ⟨#[97]⟩] H (.bool true) := by
  refine fn_det Tryd.E0 Tryd.mx Tryd.func96 (by kernel_rfl) rfl (Nat.le_of_ble_eq_true rfl) rfl fun hcl hbl => ?_
  (repeat' ((conv => whnf); (first | (refine CallN.id ?_; first | refine CallN.det _ (checker3_c _) ?_ | refine CallN.det _ (check_a _) ?_ | fail) | refine DrawN.mk' [] ?_ | fail))); all_goals (conv => whnf)
  exact EndN.det trivial (Wk.refl _)
def tmA : List AV := [.bool false, .str ⟨#[97]⟩, .sl none 0 []]
theorem term_a (H : Heap) (i L d : Nat) (hi : H[i]? = some (jb L)) (hL : 1 ≤ L ∧ L ≤ 400) (hd : d ≤ 40) : VCall Tryd.prog 87 [.ptr i 0, .agg tmA, .int .i64 d] H (setR H i (jb (L - 1)) (.bool true)) := by
  have hn := fun X => node_c (H ++ X) i L d (at_base' hi) (by omega) (by omega)
  have ht := fun (H : Heap) => terms_c H i (d + 1)
  unfold jb at hi hn ⊢
  unfold tmA
  refine fn_gen Tryd.E0 Tryd.mx Tryd.func87 (by kernel_rfl) rfl (Nat.le_of_ble_eq_true rfl) rfl fun hcl hbl => ?_
  (repeat' ((conv => whnf); (first | (refine IfN.id ?_; first | refine IfN.not ?_ | refine IfN.tt rfl ?_ | refine IfN.ff rfl ?_ | fail) | (refine EqN.id ?_; first | (refine EqN.addN _ _ (by first | with_reducible rfl | with_reducible exact cst1 | with_reducible exact cst0 | with_reducible exact cst2 | with_reducible exact cst3 | with_reducible exact cst4 | with_reducible exact cst5 | with_reducible exact cst6 | with_reducible exact cst7 | with_reducible exact cst8 | with_reducible exact cst14 | with_reducible exact cst15 | with_reducible exact cst25 | with_reducible exact cst30 | with_reducible exact cst31 | fail) (by first | with_reducible rfl | with_reducible exact cst1 | with_reducible exact cst0 | with_reducible exact cst2 | with_reducible exact cst3 | with_reducible exact cst4 | with_reducible exact cst5 | with_reducible exact cst6 | with_reducible exact cst7 | with_reducible exact cst8 | with_reducible exact cst14 | with_reducible exact cst15 | with_reducible exact cst25 | with_reducible exact cst30 | with_reducible exact cst31 | fail) ?_ ?_; · (repeat' (first | omega | refine And.intro ?_ ?_ | exact bnd_andl (by omega) | exact bnd_andr (by omega) | refine bnd_or ?_ ?_ | refine bnd_or31 ?_ ?_ | refine bnd_xor ?_ ?_ | refine bnd_xor31 ?_ ?_ | refine bnd_shr ?_ | refine bnd_shl ?_ ?_ | refine bnd_mod ?_ | refine bnd_andl ?_ | fail))) | fail) | (refine CallN.id ?_; first | refine CallN.det _ (function_a _) ?_ | refine CallN.det _ (terms_c _ _ _) ?_ | fail) | refine CallN.setB i _ _ _ _ hi rfl rfl (hn _) rfl ?_ | refine DrawN.mk' [] ?_ | fail))); all_goals (conv => whnf)
  exact EndN.setB (by simp [Blk.below, belowL, below]) trivial (Wk.refl _)
theorem terms_a (H : Heap) (i L d : Nat) (hi : H[i]? = some (jb L)) (hL : 1 ≤ L ∧ L ≤ 400) (hd : d ≤ 40) : VCall Tryd.prog 68 [.ptr i 0, .sl none 1 tmA, .int .i64 d] H (setR H i (jb (L - 1)) (.bool true)) := by
  have hn := fun X => term_a (H ++ X) i L d (at_base' hi) (by omega) (by omega)
  unfold jb at hi hn ⊢
  unfold tmA at hn ⊢
  refine fn_gen Tryd.E0 Tryd.mx Tryd.func68 (by kernel_rfl) rfl (Nat.le_of_ble_eq_true rfl) rfl fun hcl hbl => ?_
  (repeat' ((conv => whnf); (first | refine DrawN.mk' [] ?_ | fail))); all_goals (conv => whnf)
  refine LoopN.rounds Tryd.E0 Tryd.mx 2 (by simp) ?_
  (repeat' ((conv => whnf); (first | (refine IfN.id ?_; first | refine IfN.not ?_ | refine IfN.tt rfl ?_ | refine IfN.ff rfl ?_ | fail) | (refine EqN.id ?_; first | (refine EqN.addN _ _ (by first | with_reducible rfl | with_reducible exact cst1 | with_reducible exact cst0 | with_reducible exact cst2 | with_reducible exact cst3 | with_reducible exact cst4 | with_reducible exact cst5 | with_reducible exact cst6 | with_reducible exact cst7 | with_reducible exact cst8 | with_reducible exact cst14 | with_reducible exact cst15 | with_reducible exact cst25 | with_reducible exact cst30 | with_reducible exact cst31 | fail) (by first | with_reducible rfl | with_reducible exact cst1 | with_reducible exact cst0 | with_reducible exact cst2 | with_reducible exact cst3 | with_reducible exact cst4 | with_reducible exact cst5 | with_reducible exact cst6 | with_reducible exact cst7 | with_reducible exact cst8 | with_reducible exact cst14 | with_reducible exact cst15 | with_reducible exact cst25 | with_reducible exact cst30 | with_reducible exact cst31 | fail) ?_ ?_; · (repeat' (first | omega | refine And.intro ?_ ?_ | exact bnd_andl (by omega) | exact bnd_andr (by omega) | refine bnd_or ?_ ?_ | refine bnd_or31 ?_ ?_ | refine bnd_xor ?_ ?_ | refine bnd_xor31 ?_ ?_ | refine bnd_shr ?_ | refine bnd_shl ?_ ?_ | refine bnd_mod ?_ | refine bnd_andl ?_ | fail))) | fail) | (refine SideN.mk ?_ ?_; · first | kernel_rfl | omega | exact List.cons_ne_nil _ _ | (simp; done) | (simp; omega) | exact trivial | assumption | fail) | refine CallN.setB i _ _ _ _ hi rfl rfl (hn _) rfl ?_ | refine SegN.mk _ (seg_rfl rfl) ?_ | refine DrawN.mk' [] ?_ | fail))); all_goals (conv => whnf)
  exact EndN.setB (by simp [Blk.below, belowL, below]) trivial (Wk.refl _)
def atmI : It := ⟨1, ⟨#[80]⟩, 1, tmA, 0, []⟩
theorem named1_P (H : Heap) : VDet Tryd.prog 66 [.int .u8 1, .str ⟨#[80]⟩] H (.bool true) := named1_c 160 ⟨by decide, by decide⟩ H
theorem form_atm : FormG atmI.cells 2 2 true := by
  intro H i L d hi hL hd
  have hn := fun X => node_c (H ++ X) i L d (at_base' hi) (by omega) (by omega)
  have h1 := fun X => terms_a (H.set i (jb (L - 1)) ++ X) i (L - 1) (d + 1) (at_base' (at_set hi)) (by omega) (by omega)
  rw [show L - 1 - 1 = L - 2 by omega] at h1
  unfold jb at hi hn h1 ⊢
  unfold tmA at h1
  rw [show atmI.cells = [.int .u8 (1 : Nat), .str ⟨#[80]⟩, .sl none 1 [.bool false, .str ⟨#[97]⟩, .sl none 0 []], .sl none 0 []] from rfl]
  refine fn_gen Tryd.E0 Tryd.mx Tryd.func51 (by kernel_rfl) rfl (Nat.le_of_ble_eq_true rfl) rfl fun hcl hbl => ?_
  (repeat' ((conv => whnf); (first | (refine IfN.id ?_; first | refine IfN.not ?_ | refine IfN.tt rfl ?_ | refine IfN.ff rfl ?_ | fail) | (refine EqN.id ?_; first | (refine EqN.addN _ _ (by first | with_reducible rfl | with_reducible exact cst1 | with_reducible exact cst0 | with_reducible exact cst2 | with_reducible exact cst3 | with_reducible exact cst4 | with_reducible exact cst5 | with_reducible exact cst6 | with_reducible exact cst7 | with_reducible exact cst8 | with_reducible exact cst14 | with_reducible exact cst15 | with_reducible exact cst25 | with_reducible exact cst30 | with_reducible exact cst31 | fail) (by first | with_reducible rfl | with_reducible exact cst1 | with_reducible exact cst0 | with_reducible exact cst2 | with_reducible exact cst3 | with_reducible exact cst4 | with_reducible exact cst5 | with_reducible exact cst6 | with_reducible exact cst7 | with_reducible exact cst8 | with_reducible exact cst14 | with_reducible exact cst15 | with_reducible exact cst25 | with_reducible exact cst30 | with_reducible exact cst31 | fail) ?_ ?_; · (repeat' (first | omega | refine And.intro ?_ ?_ | exact bnd_andl (by omega) | exact bnd_andr (by omega) | refine bnd_or ?_ ?_ | refine bnd_or31 ?_ ?_ | refine bnd_xor ?_ ?_ | refine bnd_xor31 ?_ ?_ | refine bnd_shr ?_ | refine bnd_shl ?_ ?_ | refine bnd_mod ?_ | refine bnd_andl ?_ | fail))) | refine EqN.remN _ _ (by first | with_reducible rfl | with_reducible exact cst1 | with_reducible exact cst0 | with_reducible exact cst2 | with_reducible exact cst3 | with_reducible exact cst4 | with_reducible exact cst5 | with_reducible exact cst6 | with_reducible exact cst7 | with_reducible exact cst8 | with_reducible exact cst14 | with_reducible exact cst15 | with_reducible exact cst25 | with_reducible exact cst30 | with_reducible exact cst31 | fail) (by first | with_reducible rfl | with_reducible exact cst1 | with_reducible exact cst0 | with_reducible exact cst2 | with_reducible exact cst3 | with_reducible exact cst4 | with_reducible exact cst5 | with_reducible exact cst6 | with_reducible exact cst7 | with_reducible exact cst8 | with_reducible exact cst14 | with_reducible exact cst15 | with_reducible exact cst25 | with_reducible exact cst30 | with_reducible exact cst31 | fail) ?_ | fail) | (refine SideN.mk ?_ ?_; · first | kernel_rfl | omega | exact List.cons_ne_nil _ _ | (simp; done) | (simp; omega) | exact trivial | assumption | fail) | (refine CallN.id ?_; first | refine CallN.det _ (named1_P _) ?_ | fail) | refine CallN.setB i _ _ _ _ hi rfl rfl (hn _) rfl ?_ | refine CallN.setB i _ _ _ _ (at_set hi) (by simp) rfl (h1 _) (List.set_set ..) ?_ | refine SegN.mk _ (seg_rfl rfl) ?_ | refine DrawN.mk' [] ?_ | fail))); all_goals (conv => whnf)
  refine LoopN.rounds Tryd.E0 Tryd.mx 1 (by simp) ?_
  (repeat' ((conv => whnf); (first | (refine IfN.id ?_; first | refine IfN.ff rfl ?_ | fail) | refine DrawN.mk' [] ?_ | fail))); all_goals (conv => whnf)
  exact EndN.setB (by simp [Blk.below, belowL, below]) trivial (Wk.refl _)
end Go.Proofs.YtekhodpmpjehaaaDoor
/-! text RZ10 -/
namespace Go.Proofs.YtekhodpmpjehaaaDoor
open Go.Vsi
set_option maxHeartbeats 4000000

/-! ### the law TruthCounts -/
theorem Fm.cb (n : Nat) (f : Fm) : belowL n f.cells := by simp [Fm.cells, belowL, below, Fm.sc_below]
def encT (F : Nat → Bool) (v : Nat) : List AV := [.bool (F v)]
theorem encT_below (F : Nat → Bool) (n : Nat) (l : List Nat) : belowL n (l.flatMap (encT F)) := belowL_flat _ fun x => by simp [encT, belowL, below]
theorem table_flat (F : Nat → Bool) : ∀ l : List Nat, (l.map fun v => AV.bool (F v)) = l.flatMap (encT F)
  | [] => rfl
  | v :: l => by simp [encT, table_flat F l]
theorem cntS_succ (F : Nat → Bool) (i : Nat) : cntS (i + 1) F = cntS i F + (F i).toNat := by
  rw [cntS_add]
  congr 1
theorem cnt_not (S : Nat) (F : Nat → Bool) : cntS S F + cntS S (fun v => !F v) = S := by
  induction S with
  | zero => rfl
  | succ n ih =>
    rw [cntS_succ, cntS_succ]
    cases F n <;> simp <;> omega
theorem cnt_or_and (S : Nat) (F G : Nat → Bool) : cntS S (fun v => F v || G v) + cntS S (fun v => F v && G v) = cntS S F + cntS S G := by
  induction S with
  | zero => rfl
  | succ n ih =>
    rw [cntS_succ, cntS_succ, cntS_succ, cntS_succ]
    cases F n <;> cases G n <;> simp <;> omega
theorem cnt_wide (f : Fm) (hf : f.In lets) : cntS 4096 (fun v => f.ev (vb lets v)) = 2 ^ (12 - (namesL [f]).length) * cntS (2 ^ (namesL [f]).length) (fun v => f.ev (vb (namesL [f]) v)) :=
  cP_wide (names_sub [f] (by simp [hf])) lets_nodup (fun r => f.ev r) (dep_ev (names_in (by simp)))
/-- four counts, of which that with the number k is under way -/
def bx (N : Nat → Nat) (k c : Nat) : List AV := match k with
  | 0 => [.int .i64 c, .int .i64 0, .int .i64 0, .int .i64 0]
  | 1 => [.int .i64 (N 0), .int .i64 c, .int .i64 0, .int .i64 0]
  | 2 => [.int .i64 (N 0), .int .i64 (N 1), .int .i64 c, .int .i64 0]
  | 3 => [.int .i64 (N 0), .int .i64 (N 1), .int .i64 (N 2), .int .i64 c]
  | _ => [.int .i64 (N 0), .int .i64 (N 1), .int .i64 (N 2), .int .i64 (N 3)]
theorem bx_below (N : Nat → Nat) (k c n : Nat) : belowL n (bx N k c) := by
  unfold bx
  split <;> simp [belowL, below]
theorem SegN.rngB {F : Nat → Bool} {S : Nat} {i : Int} {k : List AV → Prop} {b : Bool} (m : Nat) (hi : i = m) (hm : m < S) (hb : F m = b) (h : k [.bool b]) : SegN ((List.range S).flatMap (encT F)) (i.toNat * 1) k :=
  SegN.nth 0 m hi (by rw [List.length_range]; exact hm) (fun _ => rfl) (by
    have : (List.range S).getD m 0 = m := by simp [List.getD_eq_getElem?_getD, hm]
    rw [this]
    show k [.bool (F m)]
    rw [hb]
    exact h)
attribute [local irreducible] VW VCall VO bits cntS
theorem counts_c (l m : List Nat) (hl : l.length ≤ 9223372036854775807) (hb : ∀ i, i < l.length → l.getD i 0 ≤ 255) (hm : m.length ≤ 9223372036854775807) (hc : ∀ i, i < m.length → m.getD i 0 ≤ 255) (H : Heap) :
    VDet Tryd.prog 5 [.sl none l.length (l.flatMap encB), .sl none m.length (m.flatMap encB)] H (.bool true) := by
  have b1 := built_c l hl hb
  have b2 := built_c m hm hc
  have z1 := blt30 l
  have z2 := blt30 m
  generalize bltF l = f at *
  generalize bltF m = g at *
  generalize l.flatMap encB = lb at *
  generalize m.flatMap encB = mb at *
  have mf := z1.mid
  have mnf := z1.mid1
  have mor := z1.mid2 z2 5 (by omega)
  have mand := z1.mid2 z2 4 (by omega)
  have h12 := names_12 [f] (by simp [z1.nice.inl])
  have hok := namesL_ok [f] fun x hx => by simp only [List.mem_singleton] at hx; exact hx ▸ z1.nice.ok
  have c1 := count_c f mf.good h12
  have c2 := count_c (.f1 3 f) mnf.good h12
  have at1 : ∀ H, VDet Tryd.prog 18 [.sx 1 f.cells] H (.sl none (namesL [f]).length ((namesL [f]).flatMap encS)) := fun H => VDet.wk (atoms_c [f] (by simp [z1.nice.pr]) (by have := nodesL_mid [f] (by simp [mf]); simp only [List.length_singleton] at this; omega) (by simp) H) ⟨wk_row (by simp), trivial⟩
  have tb := table_c f mf.good (namesL [f]) hok h12 (names_in (by simp))
  have hok2 := lets_ok
  have tl := fun x (hx : x.Mid) => table_c x hx.good lets hok2 (by decide) hx.nice.inl
  have e1 : cntS (2 ^ (namesL [.f1 3 f]).length) (fun v => (Fm.f1 3 f).ev (vb (namesL [.f1 3 f]) v)) = cntS (2 ^ (namesL [f]).length) (fun v => !f.ev (vb (namesL [f]) v)) := rfl
  rw [e1, show namesL [.f1 3 f] = namesL [f] from rfl] at c2
  have e2 := cnt_not (2 ^ (namesL [f]).length) (fun v => f.ev (vb (namesL [f]) v))
  have e3 := cnt_wide f z1.nice.inl
  have e4 := cnt_or_and 4096 (fun v => f.ev (vb lets v)) (fun v => g.ev (vb lets v))
  have tl0 := tl f z1.mid
  have tl1 := tl g z2.mid
  have tl2 := tl _ mor
  have tl3 := tl _ mand
  have ll : ∀ x : Fm, ((List.range (2 ^ lets.length)).map fun v => AV.bool (x.ev (vb lets v))) = (List.range 4096).flatMap (encT fun v => x.ev (vb lets v)) := fun x => table_flat _ _
  rw [ll] at tl0 tl1 tl2 tl3
  rw [table_flat] at tb
  have h2l := two_le (namesL [f]) h12
  obtain ⟨N, n0, n1, n2, n3⟩ : ∃ N : Nat → Nat, N 0 = cntS 4096 (fun v => f.ev (vb lets v)) ∧ N 1 = cntS 4096 (fun v => g.ev (vb lets v)) ∧ N 2 = cntS 4096 (fun v => f.ev (vb lets v) || g.ev (vb lets v)) ∧ N 3 = cntS 4096 (fun v => f.ev (vb lets v) && g.ev (vb lets v)) :=
    ⟨fun i => match i with
      | 0 => cntS 4096 (fun v => f.ev (vb lets v))
      | 1 => cntS 4096 (fun v => g.ev (vb lets v))
      | 2 => cntS 4096 (fun v => f.ev (vb lets v) || g.ev (vb lets v))
      | _ => cntS 4096 (fun v => f.ev (vb lets v) && g.ev (vb lets v)), rfl, rfl, rfl, rfl⟩
  rw [← n0] at e3
  rw [← n0, ← n1, ← n2, ← n3] at e4
  have hN0 : N 0 ≤ 4096 := by rw [n0]; exact cntS_le _ _
  have hN1 : N 1 ≤ 4096 := by rw [n1]; exact cntS_le _ _
  have hN2 : N 2 ≤ 4096 := by rw [n2]; exact cntS_le _ _
  have hN3 : N 3 ≤ 4096 := by rw [n3]; exact cntS_le _ _
  generalize (namesL [f]).flatMap encS = nb at *
  generalize hF : (fun v => f.ev (vb (namesL [f]) v)) = F at *
  have hF2 : (fun v => !f.ev (vb (namesL [f]) v)) = fun v => !F v := by subst hF; rfl
  rw [hF2] at c2 e2
  have two : ∀ n : Nat, n ≤ 12 → EqN (IntKind.i64.wrap (1 * 2 ^ min ((n : Nat) : Int).toNat IntKind.i64.bits)) fun y => y = ((2 ^ n : Nat) : Int) := fun n hn => EqN.two n (by omega) rfl
  obtain ⟨_, w1, rfl⟩ := two _ h12
  have w2 : IntKind.i64.wrap ((cntS (2 ^ (namesL [f]).length) F : Nat) * 2 ^ min (((12 - (namesL [f]).length : Nat) : Nat) : Int).toNat IntKind.i64.bits) = ((N 0 : Nat) : Int) := by
    obtain ⟨y, e, h⟩ := EqN.shlN (k := fun y => y = ((N 0 : Nat) : Int)) (x := ((cntS (2 ^ (namesL [f]).length) F : Nat) : Int)) (y := ((12 - (namesL [f]).length : Nat) : Int)) (b := 64) _ _ rfl rfl rfl (by omega) (by rw [Nat.shiftLeft_eq, Nat.mul_comm, ← e3]; omega) (by rw [Nat.shiftLeft_eq, Nat.mul_comm, ← e3])
    exact e.trans h
  generalize 2 ^ (namesL [f]).length = S at *
  generalize (namesL [f]).length = k at *
  have w3 : IntKind.i64.wrap (12 - (k : Int)) = ((12 - k : Nat) : Int) := by rw [IntWalk.i64_in _ (by omega)]; omega
  have hA : cntS S F ≤ 4096 := by omega
  have hB : cntS S (fun v => !F v) ≤ 4096 := by omega
  generalize cntS S (fun v => !F v) = B at *
  have hs1 : ∀ i, cntS (i + 1) F = cntS i F + (F i).toNat := cntS_succ F
  have hs0 := cntS_nil F
  have hsl : ∀ i, cntS i F ≤ i := fun i => cntS_le i F
  have jn := jn2
  have j1 : ∀ H, VDet Tryd.prog 16 [.int .u8 3, .sx 1 f.cells] H (.agg (Fm.f1 3 f).cells) := fun H => VDet.wk (join1_c 3 f H) ⟨Wk.refl _, wk_sx _ _, trivial⟩
  have j2 := jn2 5 f g
  have j3 := jn2 4 f g
  generalize hM0 : (fun v => f.ev (vb lets v)) = F0 at *
  generalize hM1 : (fun v => g.ev (vb lets v)) = F1 at *
  have hM2 : (fun v => (Fm.f2 5 f g).ev (vb lets v)) = fun v => f.ev (vb lets v) || g.ev (vb lets v) := rfl
  have hM3 : (fun v => (Fm.f2 4 f g).ev (vb lets v)) = fun v => f.ev (vb lets v) && g.ev (vb lets v) := rfl
  rw [hM2] at tl2
  rw [hM3] at tl3
  clear hM2 hM3
  generalize (fun v => f.ev (vb lets v) || g.ev (vb lets v)) = F2 at *
  generalize (fun v => f.ev (vb lets v) && g.ev (vb lets v)) = F3 at *
  obtain ⟨T, hT⟩ : ∃ T, T = 4096 := ⟨_, rfl⟩
  have h4 : 2 ^ lets.length = T := by rw [hT]; rfl
  rw [h4] at tl0 tl1 tl2 tl3
  rw [← hT] at n0 n1 n2 n3
  have ra : ∀ G : Nat → Bool, (List.range 4096).flatMap (encT G) = (List.range T).flatMap (encT G) := fun G => by rw [hT]
  rw [ra] at tl0 tl1 tl2 tl3
  clear ra h4
  clear ll tl hM0 hM1 hF hF2 z1 z2 mf mnf mor mand hok hok2 e1
  refine fn_det Tryd.E0 Tryd.mx Tryd.func5 (by kernel_rfl) rfl (Nat.le_of_ble_eq_true rfl) rfl fun hcl hbl => ?_
  (repeat' ((conv => whnf); (first | (refine IfN.id ?_; first | refine IfN.not ?_ | refine IfN.tt rfl ?_ | fail) | (refine CallN.id ?_; first | refine CallN.det _ (awake_c _) ?_ | refine CallN.det _ (b1 _) ?_ | refine CallN.det _ (b2 _) ?_ | refine CallN.det _ (c1 _) ?_ | refine CallN.det _ (c2 _) ?_ | refine CallN.det _ (j1 _) ?_ | refine CallN.det _ (at1 _) ?_ | refine CallN.det _ (tb _) ?_ | fail) | refine DrawN.mk' [] ?_ | fail))); all_goals (conv => whnf)
  refine loop_R Tryd.E0 Tryd.mx (σ := Nat) (fun i => i ≤ S) (fun i => S - i) (fun i => [(16, .v (.int .i64 (cntS i F : Nat))), (57, .v (.int .i64 i))]) (fun _ => _) _ 0 rfl hcl [5, 6, 7, 8, 9, 10, 11, 12, 13, 14, 15, 55, 56] rfl (Nat.zero_le _) ⟨⟨_, rfl, Wk.of_eq (by rw [hs0]; rfl)⟩, ⟨_, rfl, Wk.refl _⟩, trivial⟩ rfl (fun _ _ => rfl) ?_
  intro i hi
  clear hbl
  have hsi := hs1 i
  have hli := hsl i
  by_cases hlt : i < S
  · cases hFi : F i with
    | true =>
      rw [hFi] at hsi
      simp only [Bool.toNat_true] at hsi
      (repeat' ((conv => whnf); (first | (refine IfN.id ?_; first | refine IfN.tt rfl ?_ | refine IfN.dT (by omega) ?_ | fail) | (refine EqN.id ?_; first | (refine EqN.addN _ _ (by first | with_reducible rfl | with_reducible exact cst1 | with_reducible exact cst0 | with_reducible exact cst2 | with_reducible exact cst3 | with_reducible exact cst4 | with_reducible exact cst5 | with_reducible exact cst6 | with_reducible exact cst7 | with_reducible exact cst8 | with_reducible exact cst14 | with_reducible exact cst15 | with_reducible exact cst25 | with_reducible exact cst30 | with_reducible exact cst31 | fail) (by first | with_reducible rfl | with_reducible exact cst1 | with_reducible exact cst0 | with_reducible exact cst2 | with_reducible exact cst3 | with_reducible exact cst4 | with_reducible exact cst5 | with_reducible exact cst6 | with_reducible exact cst7 | with_reducible exact cst8 | with_reducible exact cst14 | with_reducible exact cst15 | with_reducible exact cst25 | with_reducible exact cst30 | with_reducible exact cst31 | fail) ?_ ?_; · (repeat' (first | omega | refine And.intro ?_ ?_ | exact bnd_andl (by omega) | exact bnd_andr (by omega) | refine bnd_or ?_ ?_ | refine bnd_or31 ?_ ?_ | refine bnd_xor ?_ ?_ | refine bnd_xor31 ?_ ?_ | refine bnd_shr ?_ | refine bnd_shl ?_ ?_ | refine bnd_mod ?_ | refine bnd_andl ?_ | fail))) | fail) | (refine SideN.mk ?_ ?_; · first | kernel_rfl | omega | exact List.cons_ne_nil _ _ | (simp; done) | (simp; omega) | exact trivial | assumption | fail) | refine SegN.rngB i rfl hlt hFi ?_ | refine DrawN.mk' [] ?_ | fail))); all_goals (conv => whnf)
      (refine ⟨⟨i + 1, by omega, by omega, ?_, .inl ⟨rfl, rfl⟩, rfl, _, rfl, ?_⟩⟩; rotate_left 1; (first | exact .inl rfl | exact .inr ⟨by simp [belowRE, below, belowL, tr, encB_below, fms_below, Fm.sc_below, encS_below, encT_below, bx_below, Fm.cb], by simp [belowH, Blk.below, belowL, below, encB_below, fms_below, Fm.sc_below, encS_below, encT_below, bx_below, Fm.cb]⟩ | fail); (repeat' (first | exact trivial | refine ⟨⟨_, rfl, ?_⟩, ?_⟩ | fail)); all_goals try (first | exact Wk.refl _ | exact Wk.of_eq (congrArg (AV.int _) (by omega)) | fail))
    | false =>
      rw [hFi] at hsi
      simp only [Bool.toNat_false] at hsi
      (repeat' ((conv => whnf); (first | (refine IfN.id ?_; first | refine IfN.ff rfl ?_ | refine IfN.dT (by omega) ?_ | fail) | (refine EqN.id ?_; first | (refine EqN.addN _ _ (by first | with_reducible rfl | with_reducible exact cst1 | with_reducible exact cst0 | with_reducible exact cst2 | with_reducible exact cst3 | with_reducible exact cst4 | with_reducible exact cst5 | with_reducible exact cst6 | with_reducible exact cst7 | with_reducible exact cst8 | with_reducible exact cst14 | with_reducible exact cst15 | with_reducible exact cst25 | with_reducible exact cst30 | with_reducible exact cst31 | fail) (by first | with_reducible rfl | with_reducible exact cst1 | with_reducible exact cst0 | with_reducible exact cst2 | with_reducible exact cst3 | with_reducible exact cst4 | with_reducible exact cst5 | with_reducible exact cst6 | with_reducible exact cst7 | with_reducible exact cst8 | with_reducible exact cst14 | with_reducible exact cst15 | with_reducible exact cst25 | with_reducible exact cst30 | with_reducible exact cst31 | fail) ?_ ?_; · (repeat' (first | omega | refine And.intro ?_ ?_ | exact bnd_andl (by omega) | exact bnd_andr (by omega) | refine bnd_or ?_ ?_ | refine bnd_or31 ?_ ?_ | refine bnd_xor ?_ ?_ | refine bnd_xor31 ?_ ?_ | refine bnd_shr ?_ | refine bnd_shl ?_ ?_ | refine bnd_mod ?_ | refine bnd_andl ?_ | fail))) | fail) | (refine SideN.mk ?_ ?_; · first | kernel_rfl | omega | exact List.cons_ne_nil _ _ | (simp; done) | (simp; omega) | exact trivial | assumption | fail) | refine SegN.rngB i rfl hlt hFi ?_ | refine DrawN.mk' [] ?_ | fail))); all_goals (conv => whnf)
      (refine ⟨⟨i + 1, by omega, by omega, ?_, .inl ⟨rfl, rfl⟩, rfl, _, rfl, ?_⟩⟩; rotate_left 1; (first | exact .inl rfl | exact .inr ⟨by simp [belowRE, below, belowL, tr, encB_below, fms_below, Fm.sc_below, encS_below, encT_below, bx_below, Fm.cb], by simp [belowH, Blk.below, belowL, below, encB_below, fms_below, Fm.sc_below, encS_below, encT_below, bx_below, Fm.cb]⟩ | fail); (repeat' (first | exact trivial | refine ⟨⟨_, rfl, ?_⟩, ?_⟩ | fail)); all_goals try (first | exact Wk.refl _ | exact Wk.of_eq (congrArg (AV.int _) (by omega)) | fail))
  · obtain rfl : i = S := by omega
    (repeat' ((conv => whnf); (first | (refine IfN.id ?_; first | refine IfN.not ?_ | refine IfN.tt rfl ?_ | refine IfN.dT (by omega) ?_ | refine IfN.dF (by omega) ?_ | fail) | (refine EqN.id ?_; first | refine EqN.mk _ w1 ?_ | (refine EqN.addN _ _ (by first | with_reducible rfl | with_reducible exact cst1 | with_reducible exact cst0 | with_reducible exact cst2 | with_reducible exact cst3 | with_reducible exact cst4 | with_reducible exact cst5 | with_reducible exact cst6 | with_reducible exact cst7 | with_reducible exact cst8 | with_reducible exact cst14 | with_reducible exact cst15 | with_reducible exact cst25 | with_reducible exact cst30 | with_reducible exact cst31 | fail) (by first | with_reducible rfl | with_reducible exact cst1 | with_reducible exact cst0 | with_reducible exact cst2 | with_reducible exact cst3 | with_reducible exact cst4 | with_reducible exact cst5 | with_reducible exact cst6 | with_reducible exact cst7 | with_reducible exact cst8 | with_reducible exact cst14 | with_reducible exact cst15 | with_reducible exact cst25 | with_reducible exact cst30 | with_reducible exact cst31 | fail) ?_ ?_; · (repeat' (first | omega | refine And.intro ?_ ?_ | exact bnd_andl (by omega) | exact bnd_andr (by omega) | refine bnd_or ?_ ?_ | refine bnd_or31 ?_ ?_ | refine bnd_xor ?_ ?_ | refine bnd_xor31 ?_ ?_ | refine bnd_shr ?_ | refine bnd_shl ?_ ?_ | refine bnd_mod ?_ | refine bnd_andl ?_ | fail))) | fail) | (refine SideN.mk ?_ ?_; · first | kernel_rfl | omega | exact List.cons_ne_nil _ _ | (simp; done) | (simp; omega) | exact trivial | assumption | fail) | (refine CallD.id ?_; first | refine CallD.det _ (fun _ hq X => j2 _) ?_ | refine CallD.det _ (fun _ hq X => j3 _) ?_ | fail) | refine DrawN.mk' [] ?_ | fail))); all_goals (conv => whnf)
    refine loop_R Tryd.E0 Tryd.mx (σ := Nat) (fun q => q ≤ 4) (fun q => 4 - q) (fun q => [(113, .v (.int .i64 q))]) (fun q => [.box 28 f.cells, .box 28 g.cells, .box 49 (bx N q 0)]) _ 0 rfl hcl [7, 13, 19, 111, 112] rfl (Nat.zero_le _) ⟨⟨_, rfl, Wk.refl _⟩, trivial⟩ rfl (fun _ _ => rfl) ?_
    intro q hq
    have : q = 0 ∨ q = 1 ∨ q = 2 ∨ q = 3 ∨ q = 4 := by omega
    rcases this with rfl | rfl | rfl | rfl | rfl
    · (repeat' ((conv => whnf); (first | (refine IfN.id ?_; first | refine IfN.not ?_ | refine IfN.tt rfl ?_ | refine IfN.dT (by omega) ?_ | fail) | (refine SideN.mk ?_ ?_; · first | kernel_rfl | omega | exact List.cons_ne_nil _ _ | (simp; done) | (simp; omega) | exact trivial | assumption | fail) | (refine CallD.id ?_; first | refine CallD.det _ (fun _ hq X => letters_c _) ?_ | refine CallD.det _ (fun _ hq X => tl0 _) ?_ | fail) | refine SegN.mk _ (seg_rfl rfl) ?_ | refine DrawN.mk' [] ?_ | fail))); all_goals (conv => whnf)
      refine loop_R Tryd.E0 Tryd.mx (σ := Nat × Nat) (fun p => p.1 ≤ T ∧ p.2 = cntS p.1 F0) (fun p => T - p.1) (fun p => [(133, .v (.int .i64 p.1))]) (fun p => [.box 28 f.cells, .box 28 g.cells, .box 49 (bx N 0 p.2), .box 28 f.cells]) _ (0, 0) rfl hcl [7, 13, 19, 20, 111, 112, 113, 131, 132] rfl ⟨Nat.zero_le _, (cntS_nil _).symm⟩ ⟨⟨_, rfl, Wk.refl _⟩, trivial⟩ rfl (fun _ _ => rfl) ?_
      rintro ⟨j, c⟩ ⟨hj, hc⟩
      simp only at hj hc
      have hsj := cntS_succ F0 j
      have hlj := cntS_le j F0
      rw [← hc] at hsj hlj
      by_cases hlt : j < T
      · cases hFj : F0 j with
        | true =>
          rw [hFj] at hsj
          simp only [Bool.toNat_true] at hsj
          (repeat' ((conv => whnf); (first | (refine IfN.id ?_; first | refine IfN.tt rfl ?_ | refine IfN.dT (by omega) ?_ | fail) | (refine EqN.id ?_; first | (refine EqN.addN _ _ (by first | with_reducible rfl | with_reducible exact cst1 | with_reducible exact cst0 | with_reducible exact cst2 | with_reducible exact cst3 | with_reducible exact cst4 | with_reducible exact cst5 | with_reducible exact cst6 | with_reducible exact cst7 | with_reducible exact cst8 | with_reducible exact cst14 | with_reducible exact cst15 | with_reducible exact cst25 | with_reducible exact cst30 | with_reducible exact cst31 | fail) (by first | with_reducible rfl | with_reducible exact cst1 | with_reducible exact cst0 | with_reducible exact cst2 | with_reducible exact cst3 | with_reducible exact cst4 | with_reducible exact cst5 | with_reducible exact cst6 | with_reducible exact cst7 | with_reducible exact cst8 | with_reducible exact cst14 | with_reducible exact cst15 | with_reducible exact cst25 | with_reducible exact cst30 | with_reducible exact cst31 | fail) ?_ ?_; · (repeat' (first | omega | refine And.intro ?_ ?_ | exact bnd_andl (by omega) | exact bnd_andr (by omega) | refine bnd_or ?_ ?_ | refine bnd_or31 ?_ ?_ | refine bnd_xor ?_ ?_ | refine bnd_xor31 ?_ ?_ | refine bnd_shr ?_ | refine bnd_shl ?_ ?_ | refine bnd_mod ?_ | refine bnd_andl ?_ | fail))) | fail) | (refine SideN.mk ?_ ?_; · first | kernel_rfl | omega | exact List.cons_ne_nil _ _ | (simp; done) | (simp; omega) | exact trivial | assumption | fail) | refine SegN.rngB j rfl hlt hFj ?_ | refine OfsN.at_ (by omega) ?_ | refine DrawN.mk' [] ?_ | fail))); all_goals (conv => whnf)
          (refine ⟨⟨(j + 1, c + 1), ⟨by simp only; omega, by simp only; omega⟩, by omega, ?_, .inl ⟨rfl, rfl⟩, rfl, _, rfl, ?_⟩⟩; rotate_left 1; (first | exact .inl rfl | exact .inr ⟨by simp [belowRE, below, belowL, tr, encB_below, fms_below, Fm.sc_below, encS_below, encT_below, bx_below, Fm.cb], by simp [belowH, Blk.below, belowL, below, encB_below, fms_below, Fm.sc_below, encS_below, encT_below, bx_below, Fm.cb]⟩ | fail); (repeat' (first | exact trivial | refine ⟨⟨_, rfl, ?_⟩, ?_⟩ | fail)); all_goals try (first | exact Wk.refl _ | exact Wk.of_eq (congrArg (AV.int _) (by omega)) | fail))
        | false =>
          rw [hFj] at hsj
          simp only [Bool.toNat_false, Nat.add_zero] at hsj
          (repeat' ((conv => whnf); (first | (refine IfN.id ?_; first | refine IfN.ff rfl ?_ | refine IfN.dT (by omega) ?_ | fail) | (refine EqN.id ?_; first | (refine EqN.addN _ _ (by first | with_reducible rfl | with_reducible exact cst1 | with_reducible exact cst0 | with_reducible exact cst2 | with_reducible exact cst3 | with_reducible exact cst4 | with_reducible exact cst5 | with_reducible exact cst6 | with_reducible exact cst7 | with_reducible exact cst8 | with_reducible exact cst14 | with_reducible exact cst15 | with_reducible exact cst25 | with_reducible exact cst30 | with_reducible exact cst31 | fail) (by first | with_reducible rfl | with_reducible exact cst1 | with_reducible exact cst0 | with_reducible exact cst2 | with_reducible exact cst3 | with_reducible exact cst4 | with_reducible exact cst5 | with_reducible exact cst6 | with_reducible exact cst7 | with_reducible exact cst8 | with_reducible exact cst14 | with_reducible exact cst15 | with_reducible exact cst25 | with_reducible exact cst30 | with_reducible exact cst31 | fail) ?_ ?_; · (repeat' (first | omega | refine And.intro ?_ ?_ | exact bnd_andl (by omega) | exact bnd_andr (by omega) | refine bnd_or ?_ ?_ | refine bnd_or31 ?_ ?_ | refine bnd_xor ?_ ?_ | refine bnd_xor31 ?_ ?_ | refine bnd_shr ?_ | refine bnd_shl ?_ ?_ | refine bnd_mod ?_ | refine bnd_andl ?_ | fail))) | fail) | (refine SideN.mk ?_ ?_; · first | kernel_rfl | omega | exact List.cons_ne_nil _ _ | (simp; done) | (simp; omega) | exact trivial | assumption | fail) | refine SegN.rngB j rfl hlt hFj ?_ | refine DrawN.mk' [] ?_ | fail))); all_goals (conv => whnf)
          (refine ⟨⟨(j + 1, c), ⟨by simp only; omega, by simp only; omega⟩, by omega, ?_, .inl ⟨rfl, rfl⟩, rfl, _, rfl, ?_⟩⟩; rotate_left 1; (first | exact .inl rfl | exact .inr ⟨by simp [belowRE, below, belowL, tr, encB_below, fms_below, Fm.sc_below, encS_below, encT_below, bx_below, Fm.cb], by simp [belowH, Blk.below, belowL, below, encB_below, fms_below, Fm.sc_below, encS_below, encT_below, bx_below, Fm.cb]⟩ | fail); (repeat' (first | exact trivial | refine ⟨⟨_, rfl, ?_⟩, ?_⟩ | fail)); all_goals try (first | exact Wk.refl _ | exact Wk.of_eq (congrArg (AV.int _) (by omega)) | fail))
      · have hjT : j = T := by omega
        subst hjT
        rw [← n0] at hc
        subst hc
        (repeat' ((conv => whnf); (first | (refine IfN.id ?_; first | refine IfN.dF (by omega) ?_ | fail) | (refine EqN.id ?_; first | (refine EqN.addN _ _ (by first | with_reducible rfl | with_reducible exact cst1 | with_reducible exact cst0 | with_reducible exact cst2 | with_reducible exact cst3 | with_reducible exact cst4 | with_reducible exact cst5 | with_reducible exact cst6 | with_reducible exact cst7 | with_reducible exact cst8 | with_reducible exact cst14 | with_reducible exact cst15 | with_reducible exact cst25 | with_reducible exact cst30 | with_reducible exact cst31 | fail) (by first | with_reducible rfl | with_reducible exact cst1 | with_reducible exact cst0 | with_reducible exact cst2 | with_reducible exact cst3 | with_reducible exact cst4 | with_reducible exact cst5 | with_reducible exact cst6 | with_reducible exact cst7 | with_reducible exact cst8 | with_reducible exact cst14 | with_reducible exact cst15 | with_reducible exact cst25 | with_reducible exact cst30 | with_reducible exact cst31 | fail) ?_ ?_; · (repeat' (first | omega | refine And.intro ?_ ?_ | exact bnd_andl (by omega) | exact bnd_andr (by omega) | refine bnd_or ?_ ?_ | refine bnd_or31 ?_ ?_ | refine bnd_xor ?_ ?_ | refine bnd_xor31 ?_ ?_ | refine bnd_shr ?_ | refine bnd_shl ?_ ?_ | refine bnd_mod ?_ | refine bnd_andl ?_ | fail))) | fail) | refine DrawN.mk' [] ?_ | fail))); all_goals (conv => whnf)
        (refine ⟨⟨1, by omega, by omega, ?_, .inr ?_, rfl, _, rfl, ?_⟩⟩; rotate_left 2; (first | exact .inl rfl | exact .inr ⟨by simp [belowRE, below, belowL, tr, encB_below, fms_below, Fm.sc_below, encS_below, encT_below, bx_below, Fm.cb], by simp [belowH, Blk.below, belowL, below, encB_below, fms_below, Fm.sc_below, encS_below, encT_below, bx_below, Fm.cb]⟩ | fail); all_goals (repeat' (first | exact trivial | refine ⟨⟨_, rfl, ?_⟩, ?_⟩ | fail)); all_goals try (first | exact Wk.refl _ | exact Wk.of_eq (congrArg (AV.int _) (by omega)) | fail))
    · (repeat' ((conv => whnf); (first | (refine IfN.id ?_; first | refine IfN.not ?_ | refine IfN.tt rfl ?_ | refine IfN.dT (by omega) ?_ | fail) | (refine SideN.mk ?_ ?_; · first | kernel_rfl | omega | exact List.cons_ne_nil _ _ | (simp; done) | (simp; omega) | exact trivial | assumption | fail) | (refine CallD.id ?_; first | refine CallD.det _ (fun _ hq X => letters_c _) ?_ | refine CallD.det _ (fun _ hq X => tl1 _) ?_ | fail) | refine SegN.mk _ (seg_rfl rfl) ?_ | refine DrawN.mk' [] ?_ | fail))); all_goals (conv => whnf)
      refine loop_R Tryd.E0 Tryd.mx (σ := Nat × Nat) (fun p => p.1 ≤ T ∧ p.2 = cntS p.1 F1) (fun p => T - p.1) (fun p => [(133, .v (.int .i64 p.1))]) (fun p => [.box 28 f.cells, .box 28 g.cells, .box 49 (bx N 1 p.2), .box 28 g.cells]) _ (0, 0) rfl hcl [7, 13, 19, 20, 111, 112, 113, 131, 132] rfl ⟨Nat.zero_le _, (cntS_nil _).symm⟩ ⟨⟨_, rfl, Wk.refl _⟩, trivial⟩ rfl (fun _ _ => rfl) ?_
      rintro ⟨j, c⟩ ⟨hj, hc⟩
      simp only at hj hc
      have hsj := cntS_succ F1 j
      have hlj := cntS_le j F1
      rw [← hc] at hsj hlj
      by_cases hlt : j < T
      · cases hFj : F1 j with
        | true =>
          rw [hFj] at hsj
          simp only [Bool.toNat_true] at hsj
          (repeat' ((conv => whnf); (first | (refine IfN.id ?_; first | refine IfN.tt rfl ?_ | refine IfN.dT (by omega) ?_ | fail) | (refine EqN.id ?_; first | (refine EqN.addN _ _ (by first | with_reducible rfl | with_reducible exact cst1 | with_reducible exact cst0 | with_reducible exact cst2 | with_reducible exact cst3 | with_reducible exact cst4 | with_reducible exact cst5 | with_reducible exact cst6 | with_reducible exact cst7 | with_reducible exact cst8 | with_reducible exact cst14 | with_reducible exact cst15 | with_reducible exact cst25 | with_reducible exact cst30 | with_reducible exact cst31 | fail) (by first | with_reducible rfl | with_reducible exact cst1 | with_reducible exact cst0 | with_reducible exact cst2 | with_reducible exact cst3 | with_reducible exact cst4 | with_reducible exact cst5 | with_reducible exact cst6 | with_reducible exact cst7 | with_reducible exact cst8 | with_reducible exact cst14 | with_reducible exact cst15 | with_reducible exact cst25 | with_reducible exact cst30 | with_reducible exact cst31 | fail) ?_ ?_; · (repeat' (first | omega | refine And.intro ?_ ?_ | exact bnd_andl (by omega) | exact bnd_andr (by omega) | refine bnd_or ?_ ?_ | refine bnd_or31 ?_ ?_ | refine bnd_xor ?_ ?_ | refine bnd_xor31 ?_ ?_ | refine bnd_shr ?_ | refine bnd_shl ?_ ?_ | refine bnd_mod ?_ | refine bnd_andl ?_ | fail))) | fail) | (refine SideN.mk ?_ ?_; · first | kernel_rfl | omega | exact List.cons_ne_nil _ _ | (simp; done) | (simp; omega) | exact trivial | assumption | fail) | refine SegN.rngB j rfl hlt hFj ?_ | refine OfsN.at_ (by omega) ?_ | refine DrawN.mk' [] ?_ | fail))); all_goals (conv => whnf)
          (refine ⟨⟨(j + 1, c + 1), ⟨by simp only; omega, by simp only; omega⟩, by omega, ?_, .inl ⟨rfl, rfl⟩, rfl, _, rfl, ?_⟩⟩; rotate_left 1; (first | exact .inl rfl | exact .inr ⟨by simp [belowRE, below, belowL, tr, encB_below, fms_below, Fm.sc_below, encS_below, encT_below, bx_below, Fm.cb], by simp [belowH, Blk.below, belowL, below, encB_below, fms_below, Fm.sc_below, encS_below, encT_below, bx_below, Fm.cb]⟩ | fail); (repeat' (first | exact trivial | refine ⟨⟨_, rfl, ?_⟩, ?_⟩ | fail)); all_goals try (first | exact Wk.refl _ | exact Wk.of_eq (congrArg (AV.int _) (by omega)) | fail))
        | false =>
          rw [hFj] at hsj
          simp only [Bool.toNat_false, Nat.add_zero] at hsj
          (repeat' ((conv => whnf); (first | (refine IfN.id ?_; first | refine IfN.ff rfl ?_ | refine IfN.dT (by omega) ?_ | fail) | (refine EqN.id ?_; first | (refine EqN.addN _ _ (by first | with_reducible rfl | with_reducible exact cst1 | with_reducible exact cst0 | with_reducible exact cst2 | with_reducible exact cst3 | with_reducible exact cst4 | with_reducible exact cst5 | with_reducible exact cst6 | with_reducible exact cst7 | with_reducible exact cst8 | with_reducible exact cst14 | with_reducible exact cst15 | with_reducible exact cst25 | with_reducible exact cst30 | with_reducible exact cst31 | fail) (by first | with_reducible rfl | with_reducible exact cst1 | with_reducible exact cst0 | with_reducible exact cst2 | with_reducible exact cst3 | with_reducible exact cst4 | with_reducible exact cst5 | with_reducible exact cst6 | with_reducible exact cst7 | with_reducible exact cst8 | with_reducible exact cst14 | with_reducible exact cst15 | with_reducible exact cst25 | with_reducible exact cst30 | with_reducible exact cst31 | fail) ?_ ?_; · (repeat' (first | omega | refine And.intro ?_ ?_ | exact bnd_andl (by omega) | exact bnd_andr (by omega) | refine bnd_or ?_ ?_ | refine bnd_or31 ?_ ?_ | refine bnd_xor ?_ ?_ | refine bnd_xor31 ?_ ?_ | refine bnd_shr ?_ | refine bnd_shl ?_ ?_ | refine bnd_mod ?_ | refine bnd_andl ?_ | fail))) | fail) | (refine SideN.mk ?_ ?_; · first | kernel_rfl | omega | exact List.cons_ne_nil _ _ | (simp; done) | (simp; omega) | exact trivial | assumption | fail) | refine SegN.rngB j rfl hlt hFj ?_ | refine DrawN.mk' [] ?_ | fail))); all_goals (conv => whnf)
          (refine ⟨⟨(j + 1, c), ⟨by simp only; omega, by simp only; omega⟩, by omega, ?_, .inl ⟨rfl, rfl⟩, rfl, _, rfl, ?_⟩⟩; rotate_left 1; (first | exact .inl rfl | exact .inr ⟨by simp [belowRE, below, belowL, tr, encB_below, fms_below, Fm.sc_below, encS_below, encT_below, bx_below, Fm.cb], by simp [belowH, Blk.below, belowL, below, encB_below, fms_below, Fm.sc_below, encS_below, encT_below, bx_below, Fm.cb]⟩ | fail); (repeat' (first | exact trivial | refine ⟨⟨_, rfl, ?_⟩, ?_⟩ | fail)); all_goals try (first | exact Wk.refl _ | exact Wk.of_eq (congrArg (AV.int _) (by omega)) | fail))
      · have hjT : j = T := by omega
        subst hjT
        rw [← n1] at hc
        subst hc
        (repeat' ((conv => whnf); (first | (refine IfN.id ?_; first | refine IfN.dF (by omega) ?_ | fail) | (refine EqN.id ?_; first | (refine EqN.addN _ _ (by first | with_reducible rfl | with_reducible exact cst1 | with_reducible exact cst0 | with_reducible exact cst2 | with_reducible exact cst3 | with_reducible exact cst4 | with_reducible exact cst5 | with_reducible exact cst6 | with_reducible exact cst7 | with_reducible exact cst8 | with_reducible exact cst14 | with_reducible exact cst15 | with_reducible exact cst25 | with_reducible exact cst30 | with_reducible exact cst31 | fail) (by first | with_reducible rfl | with_reducible exact cst1 | with_reducible exact cst0 | with_reducible exact cst2 | with_reducible exact cst3 | with_reducible exact cst4 | with_reducible exact cst5 | with_reducible exact cst6 | with_reducible exact cst7 | with_reducible exact cst8 | with_reducible exact cst14 | with_reducible exact cst15 | with_reducible exact cst25 | with_reducible exact cst30 | with_reducible exact cst31 | fail) ?_ ?_; · (repeat' (first | omega | refine And.intro ?_ ?_ | exact bnd_andl (by omega) | exact bnd_andr (by omega) | refine bnd_or ?_ ?_ | refine bnd_or31 ?_ ?_ | refine bnd_xor ?_ ?_ | refine bnd_xor31 ?_ ?_ | refine bnd_shr ?_ | refine bnd_shl ?_ ?_ | refine bnd_mod ?_ | refine bnd_andl ?_ | fail))) | fail) | refine DrawN.mk' [] ?_ | fail))); all_goals (conv => whnf)
        (refine ⟨⟨2, by omega, by omega, ?_, .inr ?_, rfl, _, rfl, ?_⟩⟩; rotate_left 2; (first | exact .inl rfl | exact .inr ⟨by simp [belowRE, below, belowL, tr, encB_below, fms_below, Fm.sc_below, encS_below, encT_below, bx_below, Fm.cb], by simp [belowH, Blk.below, belowL, below, encB_below, fms_below, Fm.sc_below, encS_below, encT_below, bx_below, Fm.cb]⟩ | fail); all_goals (repeat' (first | exact trivial | refine ⟨⟨_, rfl, ?_⟩, ?_⟩ | fail)); all_goals try (first | exact Wk.refl _ | exact Wk.of_eq (congrArg (AV.int _) (by omega)) | fail))
    · (repeat' ((conv => whnf); (first | (refine IfN.id ?_; first | refine IfN.not ?_ | refine IfN.tt rfl ?_ | refine IfN.dT (by omega) ?_ | fail) | (refine SideN.mk ?_ ?_; · first | kernel_rfl | omega | exact List.cons_ne_nil _ _ | (simp; done) | (simp; omega) | exact trivial | assumption | fail) | (refine CallD.id ?_; first | refine CallD.det _ (fun _ hq X => letters_c _) ?_ | refine CallD.det _ (fun _ hq X => tl2 _) ?_ | fail) | refine SegN.mk _ (seg_rfl rfl) ?_ | refine DrawN.mk' [] ?_ | fail))); all_goals (conv => whnf)
      refine loop_R Tryd.E0 Tryd.mx (σ := Nat × Nat) (fun p => p.1 ≤ T ∧ p.2 = cntS p.1 F2) (fun p => T - p.1) (fun p => [(133, .v (.int .i64 p.1))]) (fun p => [.box 28 f.cells, .box 28 g.cells, .box 49 (bx N 2 p.2), .box 28 (Fm.f2 5 f g).cells]) _ (0, 0) rfl hcl [7, 13, 19, 20, 111, 112, 113, 131, 132] rfl ⟨Nat.zero_le _, (cntS_nil _).symm⟩ ⟨⟨_, rfl, Wk.refl _⟩, trivial⟩ rfl (fun _ _ => rfl) ?_
      rintro ⟨j, c⟩ ⟨hj, hc⟩
      simp only at hj hc
      have hsj := cntS_succ F2 j
      have hlj := cntS_le j F2
      rw [← hc] at hsj hlj
      by_cases hlt : j < T
      · cases hFj : F2 j with
        | true =>
          rw [hFj] at hsj
          simp only [Bool.toNat_true] at hsj
          (repeat' ((conv => whnf); (first | (refine IfN.id ?_; first | refine IfN.tt rfl ?_ | refine IfN.dT (by omega) ?_ | fail) | (refine EqN.id ?_; first | (refine EqN.addN _ _ (by first | with_reducible rfl | with_reducible exact cst1 | with_reducible exact cst0 | with_reducible exact cst2 | with_reducible exact cst3 | with_reducible exact cst4 | with_reducible exact cst5 | with_reducible exact cst6 | with_reducible exact cst7 | with_reducible exact cst8 | with_reducible exact cst14 | with_reducible exact cst15 | with_reducible exact cst25 | with_reducible exact cst30 | with_reducible exact cst31 | fail) (by first | with_reducible rfl | with_reducible exact cst1 | with_reducible exact cst0 | with_reducible exact cst2 | with_reducible exact cst3 | with_reducible exact cst4 | with_reducible exact cst5 | with_reducible exact cst6 | with_reducible exact cst7 | with_reducible exact cst8 | with_reducible exact cst14 | with_reducible exact cst15 | with_reducible exact cst25 | with_reducible exact cst30 | with_reducible exact cst31 | fail) ?_ ?_; · (repeat' (first | omega | refine And.intro ?_ ?_ | exact bnd_andl (by omega) | exact bnd_andr (by omega) | refine bnd_or ?_ ?_ | refine bnd_or31 ?_ ?_ | refine bnd_xor ?_ ?_ | refine bnd_xor31 ?_ ?_ | refine bnd_shr ?_ | refine bnd_shl ?_ ?_ | refine bnd_mod ?_ | refine bnd_andl ?_ | fail))) | fail) | (refine SideN.mk ?_ ?_; · first | kernel_rfl | omega | exact List.cons_ne_nil _ _ | (simp; done) | (simp; omega) | exact trivial | assumption | fail) | refine SegN.rngB j rfl hlt hFj ?_ | refine OfsN.at_ (by omega) ?_ | refine DrawN.mk' [] ?_ | fail))); all_goals (conv => whnf)
          (refine ⟨⟨(j + 1, c + 1), ⟨by simp only; omega, by simp only; omega⟩, by omega, ?_, .inl ⟨rfl, rfl⟩, rfl, _, rfl, ?_⟩⟩; rotate_left 1; (first | exact .inl rfl | exact .inr ⟨by simp [belowRE, below, belowL, tr, encB_below, fms_below, Fm.sc_below, encS_below, encT_below, bx_below, Fm.cb], by simp [belowH, Blk.below, belowL, below, encB_below, fms_below, Fm.sc_below, encS_below, encT_below, bx_below, Fm.cb]⟩ | fail); (repeat' (first | exact trivial | refine ⟨⟨_, rfl, ?_⟩, ?_⟩ | fail)); all_goals try (first | exact Wk.refl _ | exact Wk.of_eq (congrArg (AV.int _) (by omega)) | fail))
        | false =>
          rw [hFj] at hsj
          simp only [Bool.toNat_false, Nat.add_zero] at hsj
          (repeat' ((conv => whnf); (first | (refine IfN.id ?_; first | refine IfN.ff rfl ?_ | refine IfN.dT (by omega) ?_ | fail) | (refine EqN.id ?_; first | (refine EqN.addN _ _ (by first | with_reducible rfl | with_reducible exact cst1 | with_reducible exact cst0 | with_reducible exact cst2 | with_reducible exact cst3 | with_reducible exact cst4 | with_reducible exact cst5 | with_reducible exact cst6 | with_reducible exact cst7 | with_reducible exact cst8 | with_reducible exact cst14 | with_reducible exact cst15 | with_reducible exact cst25 | with_reducible exact cst30 | with_reducible exact cst31 | fail) (by first | with_reducible rfl | with_reducible exact cst1 | with_reducible exact cst0 | with_reducible exact cst2 | with_reducible exact cst3 | with_reducible exact cst4 | with_reducible exact cst5 | with_reducible exact cst6 | with_reducible exact cst7 | with_reducible exact cst8 | with_reducible exact cst14 | with_reducible exact cst15 | with_reducible exact cst25 | with_reducible exact cst30 | with_reducible exact cst31 | fail) ?_ ?_; · (repeat' (first | omega | refine And.intro ?_ ?_ | exact bnd_andl (by omega) | exact bnd_andr (by omega) | refine bnd_or ?_ ?_ | refine bnd_or31 ?_ ?_ | refine bnd_xor ?_ ?_ | refine bnd_xor31 ?_ ?_ | refine bnd_shr ?_ | refine bnd_shl ?_ ?_ | refine bnd_mod ?_ | refine bnd_andl ?_ | fail))) | fail) | (refine SideN.mk ?_ ?_; · first | kernel_rfl | omega | exact List.cons_ne_nil _ _ | (simp; done) | (simp; omega) | exact trivial | assumption | fail) | refine SegN.rngB j rfl hlt hFj ?_ | refine DrawN.mk' [] ?_ | fail))); all_goals (conv => whnf)
          (refine ⟨⟨(j + 1, c), ⟨by simp only; omega, by simp only; omega⟩, by omega, ?_, .inl ⟨rfl, rfl⟩, rfl, _, rfl, ?_⟩⟩; rotate_left 1; (first | exact .inl rfl | exact .inr ⟨by simp [belowRE, below, belowL, tr, encB_below, fms_below, Fm.sc_below, encS_below, encT_below, bx_below, Fm.cb], by simp [belowH, Blk.below, belowL, below, encB_below, fms_below, Fm.sc_below, encS_below, encT_below, bx_below, Fm.cb]⟩ | fail); (repeat' (first | exact trivial | refine ⟨⟨_, rfl, ?_⟩, ?_⟩ | fail)); all_goals try (first | exact Wk.refl _ | exact Wk.of_eq (congrArg (AV.int _) (by omega)) | fail))
      · have hjT : j = T := by omega
        subst hjT
        rw [← n2] at hc
        subst hc
        (repeat' ((conv => whnf); (first | (refine IfN.id ?_; first | refine IfN.dF (by omega) ?_ | fail) | (refine EqN.id ?_; first | (refine EqN.addN _ _ (by first | with_reducible rfl | with_reducible exact cst1 | with_reducible exact cst0 | with_reducible exact cst2 | with_reducible exact cst3 | with_reducible exact cst4 | with_reducible exact cst5 | with_reducible exact cst6 | with_reducible exact cst7 | with_reducible exact cst8 | with_reducible exact cst14 | with_reducible exact cst15 | with_reducible exact cst25 | with_reducible exact cst30 | with_reducible exact cst31 | fail) (by first | with_reducible rfl | with_reducible exact cst1 | with_reducible exact cst0 | with_reducible exact cst2 | with_reducible exact cst3 | with_reducible exact cst4 | with_reducible exact cst5 | with_reducible exact cst6 | with_reducible exact cst7 | with_reducible exact cst8 | with_reducible exact cst14 | with_reducible exact cst15 | with_reducible exact cst25 | with_reducible exact cst30 | with_reducible exact cst31 | fail) ?_ ?_; · (repeat' (first | omega | refine And.intro ?_ ?_ | exact bnd_andl (by omega) | exact bnd_andr (by omega) | refine bnd_or ?_ ?_ | refine bnd_or31 ?_ ?_ | refine bnd_xor ?_ ?_ | refine bnd_xor31 ?_ ?_ | refine bnd_shr ?_ | refine bnd_shl ?_ ?_ | refine bnd_mod ?_ | refine bnd_andl ?_ | fail))) | fail) | refine DrawN.mk' [] ?_ | fail))); all_goals (conv => whnf)
        (refine ⟨⟨3, by omega, by omega, ?_, .inr ?_, rfl, _, rfl, ?_⟩⟩; rotate_left 2; (first | exact .inl rfl | exact .inr ⟨by simp [belowRE, below, belowL, tr, encB_below, fms_below, Fm.sc_below, encS_below, encT_below, bx_below, Fm.cb], by simp [belowH, Blk.below, belowL, below, encB_below, fms_below, Fm.sc_below, encS_below, encT_below, bx_below, Fm.cb]⟩ | fail); all_goals (repeat' (first | exact trivial | refine ⟨⟨_, rfl, ?_⟩, ?_⟩ | fail)); all_goals try (first | exact Wk.refl _ | exact Wk.of_eq (congrArg (AV.int _) (by omega)) | fail))
    · (repeat' ((conv => whnf); (first | (refine IfN.id ?_; first | refine IfN.not ?_ | refine IfN.tt rfl ?_ | refine IfN.dT (by omega) ?_ | fail) | (refine SideN.mk ?_ ?_; · first | kernel_rfl | omega | exact List.cons_ne_nil _ _ | (simp; done) | (simp; omega) | exact trivial | assumption | fail) | (refine CallD.id ?_; first | refine CallD.det _ (fun _ hq X => letters_c _) ?_ | refine CallD.det _ (fun _ hq X => tl3 _) ?_ | fail) | refine SegN.mk _ (seg_rfl rfl) ?_ | refine DrawN.mk' [] ?_ | fail))); all_goals (conv => whnf)
      refine loop_R Tryd.E0 Tryd.mx (σ := Nat × Nat) (fun p => p.1 ≤ T ∧ p.2 = cntS p.1 F3) (fun p => T - p.1) (fun p => [(133, .v (.int .i64 p.1))]) (fun p => [.box 28 f.cells, .box 28 g.cells, .box 49 (bx N 3 p.2), .box 28 (Fm.f2 4 f g).cells]) _ (0, 0) rfl hcl [7, 13, 19, 20, 111, 112, 113, 131, 132] rfl ⟨Nat.zero_le _, (cntS_nil _).symm⟩ ⟨⟨_, rfl, Wk.refl _⟩, trivial⟩ rfl (fun _ _ => rfl) ?_
      rintro ⟨j, c⟩ ⟨hj, hc⟩
      simp only at hj hc
      have hsj := cntS_succ F3 j
      have hlj := cntS_le j F3
      rw [← hc] at hsj hlj
      by_cases hlt : j < T
      · cases hFj : F3 j with
        | true =>
          rw [hFj] at hsj
          simp only [Bool.toNat_true] at hsj
          (repeat' ((conv => whnf); (first | (refine IfN.id ?_; first | refine IfN.tt rfl ?_ | refine IfN.dT (by omega) ?_ | fail) | (refine EqN.id ?_; first | (refine EqN.addN _ _ (by first | with_reducible rfl | with_reducible exact cst1 | with_reducible exact cst0 | with_reducible exact cst2 | with_reducible exact cst3 | with_reducible exact cst4 | with_reducible exact cst5 | with_reducible exact cst6 | with_reducible exact cst7 | with_reducible exact cst8 | with_reducible exact cst14 | with_reducible exact cst15 | with_reducible exact cst25 | with_reducible exact cst30 | with_reducible exact cst31 | fail) (by first | with_reducible rfl | with_reducible exact cst1 | with_reducible exact cst0 | with_reducible exact cst2 | with_reducible exact cst3 | with_reducible exact cst4 | with_reducible exact cst5 | with_reducible exact cst6 | with_reducible exact cst7 | with_reducible exact cst8 | with_reducible exact cst14 | with_reducible exact cst15 | with_reducible exact cst25 | with_reducible exact cst30 | with_reducible exact cst31 | fail) ?_ ?_; · (repeat' (first | omega | refine And.intro ?_ ?_ | exact bnd_andl (by omega) | exact bnd_andr (by omega) | refine bnd_or ?_ ?_ | refine bnd_or31 ?_ ?_ | refine bnd_xor ?_ ?_ | refine bnd_xor31 ?_ ?_ | refine bnd_shr ?_ | refine bnd_shl ?_ ?_ | refine bnd_mod ?_ | refine bnd_andl ?_ | fail))) | fail) | (refine SideN.mk ?_ ?_; · first | kernel_rfl | omega | exact List.cons_ne_nil _ _ | (simp; done) | (simp; omega) | exact trivial | assumption | fail) | refine SegN.rngB j rfl hlt hFj ?_ | refine OfsN.at_ (by omega) ?_ | refine DrawN.mk' [] ?_ | fail))); all_goals (conv => whnf)
          (refine ⟨⟨(j + 1, c + 1), ⟨by simp only; omega, by simp only; omega⟩, by omega, ?_, .inl ⟨rfl, rfl⟩, rfl, _, rfl, ?_⟩⟩; rotate_left 1; (first | exact .inl rfl | exact .inr ⟨by simp [belowRE, below, belowL, tr, encB_below, fms_below, Fm.sc_below, encS_below, encT_below, bx_below, Fm.cb], by simp [belowH, Blk.below, belowL, below, encB_below, fms_below, Fm.sc_below, encS_below, encT_below, bx_below, Fm.cb]⟩ | fail); (repeat' (first | exact trivial | refine ⟨⟨_, rfl, ?_⟩, ?_⟩ | fail)); all_goals try (first | exact Wk.refl _ | exact Wk.of_eq (congrArg (AV.int _) (by omega)) | fail))
        | false =>
          rw [hFj] at hsj
          simp only [Bool.toNat_false, Nat.add_zero] at hsj
          (repeat' ((conv => whnf); (first | (refine IfN.id ?_; first | refine IfN.ff rfl ?_ | refine IfN.dT (by omega) ?_ | fail) | (refine EqN.id ?_; first | (refine EqN.addN _ _ (by first | with_reducible rfl | with_reducible exact cst1 | with_reducible exact cst0 | with_reducible exact cst2 | with_reducible exact cst3 | with_reducible exact cst4 | with_reducible exact cst5 | with_reducible exact cst6 | with_reducible exact cst7 | with_reducible exact cst8 | with_reducible exact cst14 | with_reducible exact cst15 | with_reducible exact cst25 | with_reducible exact cst30 | with_reducible exact cst31 | fail) (by first | with_reducible rfl | with_reducible exact cst1 | with_reducible exact cst0 | with_reducible exact cst2 | with_reducible exact cst3 | with_reducible exact cst4 | with_reducible exact cst5 | with_reducible exact cst6 | with_reducible exact cst7 | with_reducible exact cst8 | with_reducible exact cst14 | with_reducible exact cst15 | with_reducible exact cst25 | with_reducible exact cst30 | with_reducible exact cst31 | fail) ?_ ?_; · (repeat' (first | omega | refine And.intro ?_ ?_ | exact bnd_andl (by omega) | exact bnd_andr (by omega) | refine bnd_or ?_ ?_ | refine bnd_or31 ?_ ?_ | refine bnd_xor ?_ ?_ | refine bnd_xor31 ?_ ?_ | refine bnd_shr ?_ | refine bnd_shl ?_ ?_ | refine bnd_mod ?_ | refine bnd_andl ?_ | fail))) | fail) | (refine SideN.mk ?_ ?_; · first | kernel_rfl | omega | exact List.cons_ne_nil _ _ | (simp; done) | (simp; omega) | exact trivial | assumption | fail) | refine SegN.rngB j rfl hlt hFj ?_ | refine DrawN.mk' [] ?_ | fail))); all_goals (conv => whnf)
          (refine ⟨⟨(j + 1, c), ⟨by simp only; omega, by simp only; omega⟩, by omega, ?_, .inl ⟨rfl, rfl⟩, rfl, _, rfl, ?_⟩⟩; rotate_left 1; (first | exact .inl rfl | exact .inr ⟨by simp [belowRE, below, belowL, tr, encB_below, fms_below, Fm.sc_below, encS_below, encT_below, bx_below, Fm.cb], by simp [belowH, Blk.below, belowL, below, encB_below, fms_below, Fm.sc_below, encS_below, encT_below, bx_below, Fm.cb]⟩ | fail); (repeat' (first | exact trivial | refine ⟨⟨_, rfl, ?_⟩, ?_⟩ | fail)); all_goals try (first | exact Wk.refl _ | exact Wk.of_eq (congrArg (AV.int _) (by omega)) | fail))
      · have hjT : j = T := by omega
        subst hjT
        rw [← n3] at hc
        subst hc
        (repeat' ((conv => whnf); (first | (refine IfN.id ?_; first | refine IfN.dF (by omega) ?_ | fail) | (refine EqN.id ?_; first | (refine EqN.addN _ _ (by first | with_reducible rfl | with_reducible exact cst1 | with_reducible exact cst0 | with_reducible exact cst2 | with_reducible exact cst3 | with_reducible exact cst4 | with_reducible exact cst5 | with_reducible exact cst6 | with_reducible exact cst7 | with_reducible exact cst8 | with_reducible exact cst14 | with_reducible exact cst15 | with_reducible exact cst25 | with_reducible exact cst30 | with_reducible exact cst31 | fail) (by first | with_reducible rfl | with_reducible exact cst1 | with_reducible exact cst0 | with_reducible exact cst2 | with_reducible exact cst3 | with_reducible exact cst4 | with_reducible exact cst5 | with_reducible exact cst6 | with_reducible exact cst7 | with_reducible exact cst8 | with_reducible exact cst14 | with_reducible exact cst15 | with_reducible exact cst25 | with_reducible exact cst30 | with_reducible exact cst31 | fail) ?_ ?_; · (repeat' (first | omega | refine And.intro ?_ ?_ | exact bnd_andl (by omega) | exact bnd_andr (by omega) | refine bnd_or ?_ ?_ | refine bnd_or31 ?_ ?_ | refine bnd_xor ?_ ?_ | refine bnd_xor31 ?_ ?_ | refine bnd_shr ?_ | refine bnd_shl ?_ ?_ | refine bnd_mod ?_ | refine bnd_andl ?_ | fail))) | fail) | refine DrawN.mk' [] ?_ | fail))); all_goals (conv => whnf)
        (refine ⟨⟨4, by omega, by omega, ?_, .inr ?_, rfl, _, rfl, ?_⟩⟩; rotate_left 2; (first | exact .inl rfl | exact .inr ⟨by simp [belowRE, below, belowL, tr, encB_below, fms_below, Fm.sc_below, encS_below, encT_below, bx_below, Fm.cb], by simp [belowH, Blk.below, belowL, below, encB_below, fms_below, Fm.sc_below, encS_below, encT_below, bx_below, Fm.cb]⟩ | fail); all_goals (repeat' (first | exact trivial | refine ⟨⟨_, rfl, ?_⟩, ?_⟩ | fail)); all_goals try (first | exact Wk.refl _ | exact Wk.of_eq (congrArg (AV.int _) (by omega)) | fail))
    · (repeat' ((conv => whnf); (first | (refine IfN.id ?_; first | refine IfN.ff rfl ?_ | refine IfN.dT (by omega) ?_ | fail) | (refine EqN.id ?_; first | refine EqN.mk _ w3 ?_ | refine EqN.mk _ w2 ?_ | (refine EqN.addN _ _ (by first | with_reducible rfl | with_reducible exact cst1 | with_reducible exact cst0 | with_reducible exact cst2 | with_reducible exact cst3 | with_reducible exact cst4 | with_reducible exact cst5 | with_reducible exact cst6 | with_reducible exact cst7 | with_reducible exact cst8 | with_reducible exact cst14 | with_reducible exact cst15 | with_reducible exact cst25 | with_reducible exact cst30 | with_reducible exact cst31 | fail) (by first | with_reducible rfl | with_reducible exact cst1 | with_reducible exact cst0 | with_reducible exact cst2 | with_reducible exact cst3 | with_reducible exact cst4 | with_reducible exact cst5 | with_reducible exact cst6 | with_reducible exact cst7 | with_reducible exact cst8 | with_reducible exact cst14 | with_reducible exact cst15 | with_reducible exact cst25 | with_reducible exact cst30 | with_reducible exact cst31 | fail) ?_ ?_; · (repeat' (first | omega | refine And.intro ?_ ?_ | exact bnd_andl (by omega) | exact bnd_andr (by omega) | refine bnd_or ?_ ?_ | refine bnd_or31 ?_ ?_ | refine bnd_xor ?_ ?_ | refine bnd_xor31 ?_ ?_ | refine bnd_shr ?_ | refine bnd_shl ?_ ?_ | refine bnd_mod ?_ | refine bnd_andl ?_ | fail))) | (refine EqN.subN _ _ (by first | with_reducible rfl | with_reducible exact cst1 | with_reducible exact cst0 | with_reducible exact cst2 | with_reducible exact cst3 | with_reducible exact cst4 | with_reducible exact cst5 | with_reducible exact cst6 | with_reducible exact cst7 | with_reducible exact cst8 | with_reducible exact cst14 | with_reducible exact cst15 | with_reducible exact cst25 | with_reducible exact cst30 | with_reducible exact cst31 | fail) (by first | with_reducible rfl | with_reducible exact cst1 | with_reducible exact cst0 | with_reducible exact cst2 | with_reducible exact cst3 | with_reducible exact cst4 | with_reducible exact cst5 | with_reducible exact cst6 | with_reducible exact cst7 | with_reducible exact cst8 | with_reducible exact cst14 | with_reducible exact cst15 | with_reducible exact cst25 | with_reducible exact cst30 | with_reducible exact cst31 | fail) ?_ ?_; · (repeat' (first | omega | refine And.intro ?_ ?_ | exact bnd_andl (by omega) | exact bnd_andr (by omega) | refine bnd_or ?_ ?_ | refine bnd_or31 ?_ ?_ | refine bnd_xor ?_ ?_ | refine bnd_xor31 ?_ ?_ | refine bnd_shr ?_ | refine bnd_shl ?_ ?_ | refine bnd_mod ?_ | refine bnd_andl ?_ | fail))) | fail) | (refine SideN.mk ?_ ?_; · first | kernel_rfl | omega | exact List.cons_ne_nil _ _ | (simp; done) | (simp; omega) | exact trivial | assumption | fail) | refine OfsN.at_ (by omega) ?_ | refine DrawN.mk' [] ?_ | fail))); all_goals (conv => whnf)
      all_goals exact EndN.det trivial (Wk.of_eq (by simp; try omega))
end Go.Proofs.YtekhodpmpjehaaaDoor
/-! text SD10 -/
namespace Go.Proofs.YtekhodpmpjehaaaDoor
open Go.Vsi
set_option maxHeartbeats 2000000
attribute [local irreducible] VW VCall VO bits

/-! ### truth.Right is false, and what follows from it -/
theorem synRight_g (x : It) {k dp : Nat} {r : Bool} (hf : FormG x.cells k dp r) (hk : k ≤ 400) (hd : dp ≤ 40) (H : Heap) : VDet Tryd.prog 41 [.agg x.cells] H (.bool r) := by
  have h1 := hf (H ++ [.box 28 x.cells, jb 400]) (H.length + 1) 400 1 (at_loc0 rfl) ⟨hk, Nat.le_refl _⟩ (by omega)
  unfold jb at h1
  obtain ⟨bo, bn, ban, bal, bsn, bsl⟩ := x
  unfold It.cells at h1 ⊢
  simp only at h1 ⊢
  refine fn_det Tryd.E0 Tryd.mx Tryd.func41 (by kernel_rfl) rfl (Nat.le_of_ble_eq_true rfl) rfl fun hcl hbl => ?_
  (repeat' ((conv => whnf); (first | refine CallN.setL 1 _ _ _ rfl rfl h1 rfl ?_ | refine DrawN.mk' [] ?_ | fail))); all_goals (conv => whnf)
  exact EndN.det trivial (Wk.refl _)
/-- not of propositional logic, by its operator or its arguments -/
theorem prop_op (x : It) (h : 8 ≤ x.op ∧ x.op ≤ 255 ∨ x.op = 1 ∧ x.an = 1) (H : Heap) : VDet Tryd.prog 42 [.agg x.cells] H (.bool false) := by
  obtain ⟨bo, bn, ban, bal, bsn, bsl⟩ := x
  unfold It.cells
  simp only at h ⊢
  rcases h with ⟨h1, h2⟩ | ⟨rfl, rfl⟩
  · refine fn_det Tryd.E0 Tryd.mx Tryd.func42 (by kernel_rfl) rfl (Nat.le_of_ble_eq_true rfl) rfl fun hcl hbl => ?_
    (repeat' ((conv => whnf); (first | (refine IfN.id ?_; first | refine IfN.dT (by omega) ?_ | refine IfN.dF (by omega) ?_ | fail) | refine DrawN.mk' [] ?_ | fail))); all_goals (conv => whnf)
    exact EndN.det trivial (Wk.refl _)
  · refine fn_det Tryd.E0 Tryd.mx Tryd.func42 (by kernel_rfl) rfl (Nat.le_of_ble_eq_true rfl) rfl fun hcl hbl => ?_
    (repeat' ((conv => whnf); (first | (refine IfN.id ?_; first | refine IfN.tt rfl ?_ | refine IfN.ff rfl ?_ | fail) | refine DrawN.mk' [] ?_ | fail))); all_goals (conv => whnf)
    exact EndN.det trivial (Wk.refl _)
theorem prop_and (f : Fm) (x : It) (h1 : ∀ H, VDet Tryd.prog 42 [.agg f.cells] H (.bool true)) (h2 : ∀ H, VDet Tryd.prog 42 [.agg x.cells] H (.bool false)) (H : Heap) : VDet Tryd.prog 42 [.agg (andC f x)] H (.bool false) := by
  rw [show andC f x = [.int .u8 (4 : Nat), .str .empty, .sl none 0 [], .sl none 2 [.int .u8 f.op, .str f.nmB, .sl none 0 [], .sl none f.sn f.sc, .int .u8 x.op, .str x.nm, .sl none x.an x.al, .sl none x.sn x.sl]] from rfl]
  unfold Fm.cells at h1
  unfold It.cells at h2
  refine fn_det Tryd.E0 Tryd.mx Tryd.func42 (by kernel_rfl) rfl (Nat.le_of_ble_eq_true rfl) rfl fun hcl hbl => ?_
  (repeat' ((conv => whnf); (first | (refine IfN.id ?_; first | refine IfN.ff rfl ?_ | fail) | refine DrawN.mk' [] ?_ | fail))); all_goals (conv => whnf)
  refine LoopN.rounds Tryd.E0 Tryd.mx 3 (by simp) ?_
  (repeat' ((conv => whnf); (first | (refine IfN.id ?_; first | refine IfN.not ?_ | refine IfN.tt rfl ?_ | refine IfN.ff rfl ?_ | fail) | (refine EqN.id ?_; first | (refine EqN.addN _ _ (by first | with_reducible rfl | with_reducible exact cst1 | with_reducible exact cst0 | with_reducible exact cst2 | with_reducible exact cst3 | with_reducible exact cst4 | with_reducible exact cst5 | with_reducible exact cst6 | with_reducible exact cst7 | with_reducible exact cst8 | with_reducible exact cst14 | with_reducible exact cst15 | with_reducible exact cst25 | with_reducible exact cst30 | with_reducible exact cst31 | fail) (by first | with_reducible rfl | with_reducible exact cst1 | with_reducible exact cst0 | with_reducible exact cst2 | with_reducible exact cst3 | with_reducible exact cst4 | with_reducible exact cst5 | with_reducible exact cst6 | with_reducible exact cst7 | with_reducible exact cst8 | with_reducible exact cst14 | with_reducible exact cst15 | with_reducible exact cst25 | with_reducible exact cst30 | with_reducible exact cst31 | fail) ?_ ?_; · (repeat' (first | omega | refine And.intro ?_ ?_ | exact bnd_andl (by omega) | exact bnd_andr (by omega) | refine bnd_or ?_ ?_ | refine bnd_or31 ?_ ?_ | refine bnd_xor ?_ ?_ | refine bnd_xor31 ?_ ?_ | refine bnd_shr ?_ | refine bnd_shl ?_ ?_ | refine bnd_mod ?_ | refine bnd_andl ?_ | fail))) | fail) | (refine SideN.mk ?_ ?_; · first | kernel_rfl | omega | exact List.cons_ne_nil _ _ | (simp; done) | (simp; omega) | exact trivial | assumption | fail) | (refine CallN.id ?_; first | refine CallN.det _ (h1 _) ?_ | refine CallN.det _ (h2 _) ?_ | fail) | refine SegN.mk _ (seg_rfl rfl) ?_ | refine DrawN.mk' [] ?_ | fail))); all_goals (conv => whnf)
  exact EndN.det trivial (Wk.refl _)
def andI (f : Fm) (x : It) : It := ⟨4, .empty, 0, [], 2, f.cells ++ x.cells⟩
theorem right_g (x : It) {r : Bool} (h1 : ∀ H, VDet Tryd.prog 41 [.agg x.cells] H (.bool r)) (h2 : r = true → ∀ H, VDet Tryd.prog 42 [.agg x.cells] H (.bool false)) (H : Heap) : VDet Tryd.prog 27 [.agg x.cells] H (.bool false) := by
  obtain ⟨bo, bn, ban, bal, bsn, bsl⟩ := x
  unfold It.cells at h1 h2 ⊢
  simp only at h1 h2 ⊢
  cases r with
  | true =>
    have h2 := h2 rfl
    refine fn_det Tryd.E0 Tryd.mx Tryd.func27 (by kernel_rfl) rfl (Nat.le_of_ble_eq_true rfl) rfl fun hcl hbl => ?_
    (repeat' ((conv => whnf); (first | (refine IfN.id ?_; first | refine IfN.tt rfl ?_ | fail) | (refine CallN.id ?_; first | refine CallN.det _ (h1 _) ?_ | refine CallN.det _ (h2 _) ?_ | fail) | refine DrawN.mk' [] ?_ | fail))); all_goals (conv => whnf)
    exact EndN.det trivial (Wk.refl _)
  | false =>
    refine fn_det Tryd.E0 Tryd.mx Tryd.func27 (by kernel_rfl) rfl (Nat.le_of_ble_eq_true rfl) rfl fun hcl hbl => ?_
    (repeat' ((conv => whnf); (first | (refine IfN.id ?_; first | refine IfN.ff rfl ?_ | fail) | (refine CallN.id ?_; first | refine CallN.det _ (h1 _) ?_ | fail) | refine DrawN.mk' [] ?_ | fail))); all_goals (conv => whnf)
    exact EndN.det trivial (Wk.refl _)
/-- what truth.Right refuses -/
structure Bad (x : It) : Prop where
  right : ∀ H, VDet Tryd.prog 27 [.agg x.cells] H (.bool false)
  bel : ∀ n, belowL n x.cells
theorem bad_and (f : Fm) (hf : f.Ok) (hp : f.Pr) (x : It) {k dp : Nat} {r : Bool} (hx : FormG x.cells k dp r) (hk : 1 ≤ k ∧ f.nodes + k + 1 ≤ 400) (hd : 1 ≤ dp ∧ f.depth + 1 ≤ 40 ∧ dp + 1 ≤ 40) (h2 : r = true → ∀ H, VDet Tryd.prog 42 [.agg x.cells] H (.bool false)) (hb : ∀ n, belowL n x.cells) : Bad (andI f x) :=
  ⟨right_g (andI f x) (synRight_g (andI f x) (form_and f x (form_c f hf) hk.1 hd.1 hx) hk.2 (by omega)) fun hr => prop_and f x (prop_c f hp) (h2 hr), fun n => by
    have h1 := Fm.cb n f
    have h2 := hb n
    simp only [andI, It.cells, belowL, below, true_and, and_true]
    exact ⟨fun _ e => (nomatch e), fun _ e => (nomatch e), (belowL_append _ _).2 ⟨h1, h2⟩⟩⟩
end Go.Proofs.YtekhodpmpjehaaaDoor
/-! text SE10 -/
namespace Go.Proofs.YtekhodpmpjehaaaDoor
open Go.Vsi
set_option maxHeartbeats 2000000
attribute [local irreducible] VW VCall VO bits

/-! ### the errors of the functions of truth -/
theorem named_bad (x : It) (hx : Bad x) (k : Nat) (nb : List AV) (v : Int) (hk : k ≤ 12) (H : Heap) : VDet Tryd.prog 37 [.agg x.cells, .sl none k nb, .int .i64 v] H (.tup [.nilp, .int .i64 2]) := by
  have hr := hx.right
  obtain ⟨bo, bn, ban, bal, bsn, bsl⟩ := x
  unfold It.cells at hr ⊢
  simp only at hr ⊢
  refine fn_det Tryd.E0 Tryd.mx Tryd.func37 (by kernel_rfl) rfl (Nat.le_of_ble_eq_true rfl) rfl fun hcl hbl => ?_
  (repeat' ((conv => whnf); (first | (refine IfN.id ?_; first | refine IfN.not ?_ | refine IfN.ff rfl ?_ | refine IfN.dF (by omega) ?_ | fail) | (refine CallN.id ?_; first | refine CallN.det _ (hr _) ?_ | fail) | refine DrawN.mk' [] ?_ | fail))); all_goals (conv => whnf)
  exact EndN.det ⟨trivial, trivial, trivial⟩ (Wk.refl _)
theorem named_many (x : It) (k : Nat) (nb : List AV) (v : Int) (hk : 12 < k) (H : Heap) : VDet Tryd.prog 37 [.agg x.cells, .sl none k nb, .int .i64 v] H (.tup [.nilp, .int .i64 5]) := by
  obtain ⟨bo, bn, ban, bal, bsn, bsl⟩ := x
  unfold It.cells
  refine fn_det Tryd.E0 Tryd.mx Tryd.func37 (by kernel_rfl) rfl (Nat.le_of_ble_eq_true rfl) rfl fun hcl hbl => ?_
  (repeat' ((conv => whnf); (first | (refine IfN.id ?_; first | refine IfN.dT (by omega) ?_ | fail) | refine DrawN.mk' [] ?_ | fail))); all_goals (conv => whnf)
  exact EndN.det ⟨trivial, trivial, trivial⟩ (Wk.refl _)
theorem eval_err (x : It) (nb : AV) (v : Int) (e : Int) (he : e ≠ 0) (h : ∀ H, VDet Tryd.prog 37 [.agg x.cells, nb, .int .i64 v] H (.tup [.nilp, .int .i64 e])) (H : Heap) : VDet Tryd.prog 21 [.agg x.cells, nb, .int .i64 v] H (.tup [.bool false, .int .i64 e]) := by
  obtain ⟨bo, bn, ban, bal, bsn, bsl⟩ := x
  unfold It.cells at h ⊢
  simp only at h ⊢
  refine fn_det Tryd.E0 Tryd.mx Tryd.func21 (by kernel_rfl) rfl (Nat.le_of_ble_eq_true rfl) rfl fun hcl hbl => ?_
  (repeat' ((conv => whnf); (first | (refine IfN.id ?_; first | refine IfN.neT he ?_ | fail) | (refine CallN.id ?_; first | refine CallN.det _ (h _) ?_ | fail) | refine DrawN.mk' [] ?_ | fail))); all_goals (conv => whnf)
  exact EndN.det ⟨trivial, trivial, trivial⟩ (Wk.refl _)
theorem table_err (x : It) (nb : AV) (e : Int) (he : e ≠ 0) (h : ∀ H, VDet Tryd.prog 37 [.agg x.cells, nb, .int .i64 0] H (.tup [.nilp, .int .i64 e])) (H : Heap) : VDet Tryd.prog 19 [.agg x.cells, nb] H (.tup [.nils, .int .i64 e]) := by
  obtain ⟨bo, bn, ban, bal, bsn, bsl⟩ := x
  unfold It.cells at h ⊢
  simp only at h ⊢
  refine fn_det Tryd.E0 Tryd.mx Tryd.func19 (by kernel_rfl) rfl (Nat.le_of_ble_eq_true rfl) rfl fun hcl hbl => ?_
  (repeat' ((conv => whnf); (first | (refine IfN.id ?_; first | refine IfN.neT he ?_ | fail) | (refine CallN.id ?_; first | refine CallN.det _ (h _) ?_ | fail) | refine DrawN.mk' [] ?_ | fail))); all_goals (conv => whnf)
  exact EndN.det ⟨trivial, trivial, trivial⟩ (Wk.refl _)
theorem allRight_1 (x : It) (hx : Bad x) (H : Heap) : VDet Tryd.prog 43 [.sl none 1 x.cells] H (.bool false) := by
  have hr := hx.right
  obtain ⟨bo, bn, ban, bal, bsn, bsl⟩ := x
  unfold It.cells at hr ⊢
  simp only at hr ⊢
  refine fn_det Tryd.E0 Tryd.mx Tryd.func43 (by kernel_rfl) rfl (Nat.le_of_ble_eq_true rfl) rfl fun hcl hbl => ?_
  (repeat' ((conv => whnf); (first | refine DrawN.mk' [] ?_ | fail))); all_goals (conv => whnf)
  refine LoopN.rounds Tryd.E0 Tryd.mx 2 (by simp) ?_
  (repeat' ((conv => whnf); (first | (refine IfN.id ?_; first | refine IfN.not ?_ | refine IfN.tt rfl ?_ | refine IfN.ff rfl ?_ | fail) | (refine SideN.mk ?_ ?_; · first | kernel_rfl | omega | exact List.cons_ne_nil _ _ | (simp; done) | (simp; omega) | exact trivial | assumption | fail) | (refine CallN.id ?_; first | refine CallN.det _ (hr _) ?_ | fail) | refine SegN.mk _ (seg_rfl rfl) ?_ | refine DrawN.mk' [] ?_ | fail))); all_goals (conv => whnf)
  exact EndN.det trivial (Wk.refl _)
theorem allRight_2 (f : Fm) (hf : ∀ H, VDet Tryd.prog 27 [.agg f.cells] H (.bool true)) (x : It) (hx : Bad x) (H : Heap) : VDet Tryd.prog 43 [.sl none 2 (f.cells ++ x.cells)] H (.bool false) := by
  have hr := hx.right
  rw [show f.cells ++ x.cells = [.int .u8 f.op, .str f.nmB, .sl none 0 [], .sl none f.sn f.sc, .int .u8 x.op, .str x.nm, .sl none x.an x.al, .sl none x.sn x.sl] from rfl]
  unfold Fm.cells at hf
  unfold It.cells at hr
  refine fn_det Tryd.E0 Tryd.mx Tryd.func43 (by kernel_rfl) rfl (Nat.le_of_ble_eq_true rfl) rfl fun hcl hbl => ?_
  (repeat' ((conv => whnf); (first | refine DrawN.mk' [] ?_ | fail))); all_goals (conv => whnf)
  refine LoopN.rounds Tryd.E0 Tryd.mx 3 (by simp) ?_
  (repeat' ((conv => whnf); (first | (refine IfN.id ?_; first | refine IfN.not ?_ | refine IfN.tt rfl ?_ | refine IfN.ff rfl ?_ | fail) | (refine EqN.id ?_; first | (refine EqN.addN _ _ (by first | with_reducible rfl | with_reducible exact cst1 | with_reducible exact cst0 | with_reducible exact cst2 | with_reducible exact cst3 | with_reducible exact cst4 | with_reducible exact cst5 | with_reducible exact cst6 | with_reducible exact cst7 | with_reducible exact cst8 | with_reducible exact cst14 | with_reducible exact cst15 | with_reducible exact cst25 | with_reducible exact cst30 | with_reducible exact cst31 | fail) (by first | with_reducible rfl | with_reducible exact cst1 | with_reducible exact cst0 | with_reducible exact cst2 | with_reducible exact cst3 | with_reducible exact cst4 | with_reducible exact cst5 | with_reducible exact cst6 | with_reducible exact cst7 | with_reducible exact cst8 | with_reducible exact cst14 | with_reducible exact cst15 | with_reducible exact cst25 | with_reducible exact cst30 | with_reducible exact cst31 | fail) ?_ ?_; · (repeat' (first | omega | refine And.intro ?_ ?_ | exact bnd_andl (by omega) | exact bnd_andr (by omega) | refine bnd_or ?_ ?_ | refine bnd_or31 ?_ ?_ | refine bnd_xor ?_ ?_ | refine bnd_xor31 ?_ ?_ | refine bnd_shr ?_ | refine bnd_shl ?_ ?_ | refine bnd_mod ?_ | refine bnd_andl ?_ | fail))) | fail) | (refine SideN.mk ?_ ?_; · first | kernel_rfl | omega | exact List.cons_ne_nil _ _ | (simp; done) | (simp; omega) | exact trivial | assumption | fail) | (refine CallN.id ?_; first | refine CallN.det _ (hr _) ?_ | refine CallN.det _ (hf _) ?_ | fail) | refine SegN.mk _ (seg_rfl rfl) ?_ | refine DrawN.mk' [] ?_ | fail))); all_goals (conv => whnf)
  exact EndN.det trivial (Wk.refl _)
theorem own_err (l : AV) (h : ∀ H, VDet Tryd.prog 43 [l] H (.bool false)) (n : Nat) (c : List AV) (hl : l = .sl none n c) (H : Heap) : VDet Tryd.prog 28 [l] H (.tup [.nilp, .int .i64 2]) := by
  subst hl
  refine fn_det Tryd.E0 Tryd.mx Tryd.func28 (by kernel_rfl) rfl (Nat.le_of_ble_eq_true rfl) rfl fun hcl hbl => ?_
  (repeat' ((conv => whnf); (first | (refine IfN.id ?_; first | refine IfN.not ?_ | refine IfN.ff rfl ?_ | fail) | (refine CallN.id ?_; first | refine CallN.det _ (h _) ?_ | fail) | refine DrawN.mk' [] ?_ | fail))); all_goals (conv => whnf)
  exact EndN.det ⟨trivial, trivial, trivial⟩ (Wk.refl _)
theorem count_bad (x : It) (hx : Bad x) (H : Heap) : VDet Tryd.prog 17 [.agg x.cells] H (.tup [.int .i64 0, .int .i64 0, .int .i64 2]) := by
  have h := own_err _ (allRight_1 x hx) _ _ rfl
  obtain ⟨bo, bn, ban, bal, bsn, bsl⟩ := x
  unfold It.cells at h ⊢
  simp only at h ⊢
  have h : ∀ H, VDet Tryd.prog 28 [.sx 1 [.int .u8 bo, .str bn, .sl none ban bal, .sl none bsn bsl]] H (.tup [.nilp, .int .i64 2]) := fun H => VDet.wk (h H) ⟨wk_sx _ _, trivial⟩
  refine fn_det Tryd.E0 Tryd.mx Tryd.func17 (by kernel_rfl) rfl (Nat.le_of_ble_eq_true rfl) rfl fun hcl hbl => ?_
  (repeat' ((conv => whnf); (first | (refine IfN.id ?_; first | refine IfN.not ?_ | refine IfN.ff rfl ?_ | fail) | (refine CallN.id ?_; first | refine CallN.det _ (h _) ?_ | fail) | refine DrawN.mk' [] ?_ | fail))); all_goals (conv => whnf)
  exact EndN.det ⟨trivial, trivial, trivial, trivial⟩ (Wk.refl _)
theorem equal_bad (f : Fm) (hf : ∀ H, VDet Tryd.prog 27 [.agg f.cells] H (.bool true)) (x : It) (hx : Bad x) (H : Heap) : VDet Tryd.prog 25 [.agg f.cells, .agg x.cells] H (.tup [.bool false, .int .i64 2]) := by
  have h := own_err _ (allRight_2 f hf x hx) _ _ rfl
  rw [show f.cells ++ x.cells = [.int .u8 f.op, .str f.nmB, .sl none 0 [], .sl none f.sn f.sc, .int .u8 x.op, .str x.nm, .sl none x.an x.al, .sl none x.sn x.sl] from rfl] at h
  have h : ∀ H, VDet Tryd.prog 28 [.sx 2 [.int .u8 f.op, .str f.nmB, .sl none 0 [], .sl none f.sn f.sc, .int .u8 x.op, .str x.nm, .sl none x.an x.al, .sl none x.sn x.sl]] H (.tup [.nilp, .int .i64 2]) := fun H => VDet.wk (h H) ⟨wk_sx _ _, trivial⟩
  unfold Fm.cells It.cells
  refine fn_det Tryd.E0 Tryd.mx Tryd.func25 (by kernel_rfl) rfl (Nat.le_of_ble_eq_true rfl) rfl fun hcl hbl => ?_
  (repeat' ((conv => whnf); (first | (refine IfN.id ?_; first | refine IfN.not ?_ | refine IfN.ff rfl ?_ | fail) | (refine CallN.id ?_; first | refine CallN.det _ (h _) ?_ | fail) | refine DrawN.mk' [] ?_ | fail))); all_goals (conv => whnf)
  exact EndN.det ⟨trivial, trivial, trivial⟩ (Wk.refl _)
theorem concatG_c (n m : Nat) (cl cm : List AV) (l1 : cl.length = n * 4) (l2 : cm.length = m * 4) (o1 : allOne cl = true) (o2 : allOne cm = true) (b1 : ∀ k, belowL k cl) (b2 : ∀ k, belowL k cm) (h0 : 0 < n + m) (hn : n + m ≤ 1000) (H : Heap) : VDet Tryd.prog 38 [.sl none 2 [.sl none n cl, .sl none m cm]] H (.sl none (n + m) (cl ++ cm)) := by
  have hg := grow_c (0 + n + m) (by omega) (by omega)
  refine fn_det Tryd.E0 Tryd.mx Tryd.func38 (by kernel_rfl) rfl (Nat.le_of_ble_eq_true rfl) rfl fun hcl hbl => ?_
  (repeat' ((conv => whnf); (first | refine DrawN.mk' [] ?_ | fail))); all_goals (conv => whnf)
  refine LoopN.rounds Tryd.E0 Tryd.mx 3 rfl ?_
  (repeat' ((conv => whnf); (first | (refine IfN.id ?_; first | refine IfN.tt rfl ?_ | refine IfN.ff rfl ?_ | fail) | (refine EqN.id ?_; first | (refine EqN.addN _ _ (by first | with_reducible rfl | with_reducible exact cst1 | with_reducible exact cst0 | with_reducible exact cst2 | with_reducible exact cst3 | with_reducible exact cst4 | with_reducible exact cst5 | with_reducible exact cst6 | with_reducible exact cst7 | with_reducible exact cst8 | with_reducible exact cst14 | with_reducible exact cst15 | with_reducible exact cst25 | with_reducible exact cst30 | with_reducible exact cst31 | fail) (by first | with_reducible rfl | with_reducible exact cst1 | with_reducible exact cst0 | with_reducible exact cst2 | with_reducible exact cst3 | with_reducible exact cst4 | with_reducible exact cst5 | with_reducible exact cst6 | with_reducible exact cst7 | with_reducible exact cst8 | with_reducible exact cst14 | with_reducible exact cst15 | with_reducible exact cst25 | with_reducible exact cst30 | with_reducible exact cst31 | fail) ?_ ?_; · (repeat' (first | omega | refine And.intro ?_ ?_ | exact bnd_andl (by omega) | exact bnd_andr (by omega) | refine bnd_or ?_ ?_ | refine bnd_or31 ?_ ?_ | refine bnd_xor ?_ ?_ | refine bnd_xor31 ?_ ?_ | refine bnd_shr ?_ | refine bnd_shl ?_ ?_ | refine bnd_mod ?_ | refine bnd_andl ?_ | fail))) | fail) | (refine SideN.mk ?_ ?_; · first | kernel_rfl | omega | exact List.cons_ne_nil _ _ | (simp; done) | (simp; omega) | exact trivial | assumption | fail) | refine CallN.grow _ _ _ 1 (hg _) rfl rfl rfl ?_ | refine SegN.mk _ (seg_rfl rfl) ?_ | refine DrawN.mk' [] ?_ | fail))); all_goals (conv => whnf)
  rw [show (H ++ ([] : Heap)) = H from List.append_nil H]
  refine LoopN.rounds Tryd.E0 Tryd.mx 3 rfl ?_
  have hA1 : AppT ([] : List AV).length 0 n 4 72 [] cl := ⟨rfl, o1, l1, by omega, by unfold maxLen; omega⟩
  have hA2 : AppT ([] ++ cl : List AV).length (0 + n) m 4 72 ([] ++ cl) cm := ⟨rfl, o2, l2, by omega, by unfold maxLen; omega⟩
  (repeat' ((conv => whnf); (first | (refine IfN.id ?_; first | refine IfN.tt rfl ?_ | refine IfN.ff rfl ?_ | fail) | (refine EqN.id ?_; first | (refine EqN.addN _ _ (by first | with_reducible rfl | with_reducible exact cst1 | with_reducible exact cst0 | with_reducible exact cst2 | with_reducible exact cst3 | with_reducible exact cst4 | with_reducible exact cst5 | with_reducible exact cst6 | with_reducible exact cst7 | with_reducible exact cst8 | with_reducible exact cst14 | with_reducible exact cst15 | with_reducible exact cst25 | with_reducible exact cst30 | with_reducible exact cst31 | fail) (by first | with_reducible rfl | with_reducible exact cst1 | with_reducible exact cst0 | with_reducible exact cst2 | with_reducible exact cst3 | with_reducible exact cst4 | with_reducible exact cst5 | with_reducible exact cst6 | with_reducible exact cst7 | with_reducible exact cst8 | with_reducible exact cst14 | with_reducible exact cst15 | with_reducible exact cst25 | with_reducible exact cst30 | with_reducible exact cst31 | fail) ?_ ?_; · (repeat' (first | omega | refine And.intro ?_ ?_ | exact bnd_andl (by omega) | exact bnd_andr (by omega) | refine bnd_or ?_ ?_ | refine bnd_or31 ?_ ?_ | refine bnd_xor ?_ ?_ | refine bnd_xor31 ?_ ?_ | refine bnd_shr ?_ | refine bnd_shl ?_ ?_ | refine bnd_mod ?_ | refine bnd_andl ?_ | fail))) | fail) | (refine SideN.mk ?_ ?_; · first | kernel_rfl | omega | exact List.cons_ne_nil _ _ | (simp; done) | (simp; omega) | exact trivial | assumption | fail) | (refine PtrN.id ?_; first | refine PtrN.loc _ rfl ?_ | fail) | refine SegN.mk _ (seg_rfl rfl) ?_ | refine DrawN.mk' [] ?_ | fail))); all_goals (conv => whnf)
  refine EndN.detF (u' := .sl none (0 + n + m) ([] ++ cl ++ cm)) ⟨fun _ e => (nomatch e), (belowL_append _ _).2 ⟨b1 _, b2 _⟩⟩ (Frz.sl (FrzL.refl _)) (Wk.of_eq (by simp))
theorem falsify_err (a b : AV) (n : Nat) (c : List AV) (hc : ∀ H, VDet Tryd.prog 38 [.sx 2 [a, b]] H (.sl none n c)) (h : ∀ H, VDet Tryd.prog 28 [.sl none n c] H (.tup [.nilp, .int .i64 2])) (n1 n2 : Nat) (c1 c2 : List AV) (ha : a = .sl none n1 c1) (hb : b = .sl none n2 c2) (H : Heap) : VDet Tryd.prog 20 [.agg [a, b]] H (.tup [.int .i64 0, .bool false, .int .i64 2]) := by
  subst ha hb
  refine fn_det Tryd.E0 Tryd.mx Tryd.func20 (by kernel_rfl) rfl (Nat.le_of_ble_eq_true rfl) rfl fun hcl hbl => ?_
  (repeat' ((conv => whnf); (first | (refine IfN.id ?_; first | refine IfN.not ?_ | refine IfN.ff rfl ?_ | fail) | (refine CallN.id ?_; first | refine CallN.det _ (hc _) ?_ | refine CallN.det _ (h _) ?_ | fail) | refine DrawN.mk' [] ?_ | fail))); all_goals (conv => whnf)
  exact EndN.det ⟨trivial, trivial, trivial, trivial⟩ (Wk.refl _)
theorem follows_err (a b : AV) (h : ∀ H, VDet Tryd.prog 20 [.agg [a, b]] H (.tup [.int .i64 0, .bool false, .int .i64 2])) (n1 n2 : Nat) (c1 c2 : List AV) (ha : a = .sl none n1 c1) (hb : b = .sl none n2 c2) (H : Heap) : VDet Tryd.prog 15 [.agg [a, b]] H (.tup [.bool false, .int .i64 2]) := by
  subst ha hb
  refine fn_det Tryd.E0 Tryd.mx Tryd.func15 (by kernel_rfl) rfl (Nat.le_of_ble_eq_true rfl) rfl fun hcl hbl => ?_
  (repeat' ((conv => whnf); (first | (refine IfN.id ?_; first | refine IfN.ff rfl ?_ | fail) | (refine CallN.id ?_; first | refine CallN.det _ (h _) ?_ | fail) | refine DrawN.mk' [] ?_ | fail))); all_goals (conv => whnf)
  exact EndN.det ⟨trivial, trivial, trivial⟩ (Wk.refl _)
theorem item_one (x : It) : x.cells.length = 1 * 4 ∧ allOne x.cells = true := ⟨rfl, rfl⟩
theorem falsify_bad (f : Fm) (hf : ∀ H, VDet Tryd.prog 27 [.agg f.cells] H (.bool true)) (x : It) (hx : Bad x) (H : Heap) : VDet Tryd.prog 20 [.agg [.sl none 1 f.cells, .sl none 1 x.cells]] H (.tup [.int .i64 0, .bool false, .int .i64 2]) :=
  falsify_err _ _ (1 + 1) (f.cells ++ x.cells) (fun H => VDet.wk (concatG_c 1 1 f.cells x.cells rfl rfl rfl rfl (fun k => Fm.cb k f) hx.bel (by omega) (by omega) H) ⟨wk_sx _ _, trivial⟩) (own_err _ (allRight_2 f hf x hx) _ _ rfl) _ _ _ _ rfl rfl H
theorem follows_bad (x : It) (hx : Bad x) (H : Heap) : VDet Tryd.prog 15 [.agg [.sl none 1 x.cells, .sl none 0 []]] H (.tup [.bool false, .int .i64 2]) := by
  have h1 : ∀ H, VDet Tryd.prog 38 [.sx 2 [.sl none 1 x.cells, .sl none 0 []]] H (.sl none 1 x.cells) := fun H => by
    have := concatG_c 1 0 x.cells [] rfl rfl rfl rfl hx.bel (fun k => trivial) (by omega) (by omega) H
    rw [List.append_nil] at this
    exact VDet.wk this ⟨wk_sx _ _, trivial⟩
  exact follows_err _ _ (falsify_err _ _ 1 x.cells h1 (own_err _ (allRight_1 x hx) _ _ rfl) _ _ _ _ rfl rfl) _ _ _ _ rfl rfl H
/-! ### formulas that are right, and valuations and names that are not -/
def fI (f : Fm) : It := ⟨f.op, f.nmB, 0, [], f.sn, f.sc⟩
theorem named_big (f : Fm) (hf : f.Good) (l : List UInt8) (hl : NmOk l) (h12 : l.length ≤ 12) (v : Int) (hv : v < 0 ∨ (2 ^ l.length : Nat) ≤ v) (H : Heap) : VDet Tryd.prog 37 [.agg f.cells, .sl none l.length (l.flatMap encS), .int .i64 v] H (.tup [.nilp, .int .i64 2]) := by
  have h1 := right_c f hf.ok hf.small hf.pr
  have h2 := isNames_c l hl
  have h2l := two_le l h12
  have hfc : f.cells = [.int .u8 f.op, .str f.nmB, .sl none 0 [], .sl none f.sn f.sc] := rfl
  rw [hfc] at h1 ⊢
  have two : EqN (IntKind.i64.wrap (1 * 2 ^ min ((l.length : Nat) : Int).toNat IntKind.i64.bits)) fun y => y = ((2 ^ l.length : Nat) : Int) := EqN.two l.length (by omega) rfl
  obtain ⟨_, w1, rfl⟩ := two
  generalize l.flatMap encS = lc at *
  generalize 2 ^ l.length = S at *
  generalize l.length = k at *
  generalize f.op = fo at *
  generalize f.nmB = fn at *
  generalize f.sn = fsn at *
  generalize f.sc = fsc at *
  by_cases h0 : v < 0
  · refine fn_det Tryd.E0 Tryd.mx Tryd.func37 (by kernel_rfl) rfl (Nat.le_of_ble_eq_true rfl) rfl fun hcl hbl => ?_
    (repeat' ((conv => whnf); (first | (refine IfN.id ?_; first | refine IfN.not ?_ | refine IfN.tt rfl ?_ | refine IfN.dT (by omega) ?_ | refine IfN.dF (by omega) ?_ | fail) | (refine CallN.id ?_; first | refine CallN.det _ (h1 _) ?_ | refine CallN.det _ (h2 _) ?_ | fail) | refine DrawN.mk' [] ?_ | fail))); all_goals (conv => whnf)
    exact EndN.det ⟨trivial, trivial, trivial⟩ (Wk.refl _)
  · have hge : (S : Int) ≤ v := by omega
    refine fn_det Tryd.E0 Tryd.mx Tryd.func37 (by kernel_rfl) rfl (Nat.le_of_ble_eq_true rfl) rfl fun hcl hbl => ?_
    (repeat' ((conv => whnf); (first | (refine IfN.id ?_; first | refine IfN.not ?_ | refine IfN.tt rfl ?_ | refine IfN.dT (by omega) ?_ | refine IfN.dF (by omega) ?_ | fail) | (refine EqN.id ?_; first | refine EqN.mk _ w1 ?_ | fail) | (refine SideN.mk ?_ ?_; · first | kernel_rfl | omega | exact List.cons_ne_nil _ _ | (simp; done) | (simp; omega) | exact trivial | assumption | fail) | (refine CallN.id ?_; first | refine CallN.det _ (h1 _) ?_ | refine CallN.det _ (h2 _) ?_ | fail) | refine DrawN.mk' [] ?_ | fail))); all_goals (conv => whnf)
    exact EndN.det ⟨trivial, trivial, trivial⟩ (Wk.refl _)
theorem named_names (f : Fm) (hf : f.Good) (k : Nat) (lc : List AV) (h12 : k ≤ 12) (hn : ∀ H, VDet Tryd.prog 40 [.sl none k lc] H (.bool false)) (v : Int) (H : Heap) : VDet Tryd.prog 37 [.agg f.cells, .sl none k lc, .int .i64 v] H (.tup [.nilp, .int .i64 2]) := by
  have h1 := right_c f hf.ok hf.small hf.pr
  have hfc : f.cells = [.int .u8 f.op, .str f.nmB, .sl none 0 [], .sl none f.sn f.sc] := rfl
  rw [hfc] at h1 ⊢
  generalize f.op = fo at *
  generalize f.nmB = fn at *
  generalize f.sn = fsn at *
  generalize f.sc = fsc at *
  refine fn_det Tryd.E0 Tryd.mx Tryd.func37 (by kernel_rfl) rfl (Nat.le_of_ble_eq_true rfl) rfl fun hcl hbl => ?_
  (repeat' ((conv => whnf); (first | (refine IfN.id ?_; first | refine IfN.not ?_ | refine IfN.tt rfl ?_ | refine IfN.ff rfl ?_ | refine IfN.dF (by omega) ?_ | fail) | (refine CallN.id ?_; first | refine CallN.det _ (h1 _) ?_ | refine CallN.det _ (hn _) ?_ | fail) | refine DrawN.mk' [] ?_ | fail))); all_goals (conv => whnf)
  exact EndN.det ⟨trivial, trivial, trivial⟩ (Wk.refl _)
theorem isNames_f (l : List UInt8) (m : Nat) (hlen : l.length ≤ 52) (hm : 0 < m ∧ m < l.length) (hcap : ∀ i, i < l.length → cap (l.getD i 0)) (hinc : ∀ i, 0 < i → i < m → (l.getD (i - 1) 0).toNat < (l.getD i 0).toNat) (hno : ¬ (l.getD (m - 1) 0).toNat < (l.getD m 0).toNat) (H : Heap) : VDet Tryd.prog 40 [.sl none l.length (l.flatMap encS)] H (.bool false) := by
  refine fn_det Tryd.E0 Tryd.mx Tryd.func40 (by kernel_rfl) rfl (Nat.le_of_ble_eq_true rfl) rfl fun hcl hbl => ?_
  (repeat' ((conv => whnf); (first | refine DrawN.mk' [] ?_ | fail))); all_goals (conv => whnf)
  refine loop_R Tryd.E0 Tryd.mx (σ := Nat) (fun k => k ≤ m) (fun k => m - k) (fun k => [(7, .v (.int .i64 k))]) (fun _ => []) _ 0 rfl hcl [0, 5, 6] rfl (Nat.zero_le _) ⟨⟨_, rfl, Wk.refl _⟩, trivial⟩ rfl (fun _ _ => rfl) ?_
  intro k hk
  have hc := hcap k
  clear hbl
  by_cases hkm : k < m
  · have hlt : 0 < k → Op.bytesLess (nm (l.getD (k - 1) 0)).toList (nm (l.getD k 0)).toList = true := fun h0 => by
      rw [nm_lt]; exact decide_eq_true (hinc k h0 hkm)
    (repeat' ((conv => whnf); (first | (refine IfN.id ?_; first | refine IfN.tt (hlt (by omega)) ?_ | refine IfN.not ?_ | refine IfN.tt rfl ?_ | refine IfN.dT (by omega) ?_ | refine IfN.dec (fun _ => ?_) (fun _ => ?_) | fail) | (refine EqN.id ?_; first | (refine EqN.addN _ _ (by first | with_reducible rfl | with_reducible exact cst1 | with_reducible exact cst0 | with_reducible exact cst2 | with_reducible exact cst3 | with_reducible exact cst4 | with_reducible exact cst5 | with_reducible exact cst6 | with_reducible exact cst7 | with_reducible exact cst8 | with_reducible exact cst14 | with_reducible exact cst15 | with_reducible exact cst25 | with_reducible exact cst30 | with_reducible exact cst31 | fail) (by first | with_reducible rfl | with_reducible exact cst1 | with_reducible exact cst0 | with_reducible exact cst2 | with_reducible exact cst3 | with_reducible exact cst4 | with_reducible exact cst5 | with_reducible exact cst6 | with_reducible exact cst7 | with_reducible exact cst8 | with_reducible exact cst14 | with_reducible exact cst15 | with_reducible exact cst25 | with_reducible exact cst30 | with_reducible exact cst31 | fail) ?_ ?_; · (repeat' (first | omega | refine And.intro ?_ ?_ | exact bnd_andl (by omega) | exact bnd_andr (by omega) | refine bnd_or ?_ ?_ | refine bnd_or31 ?_ ?_ | refine bnd_xor ?_ ?_ | refine bnd_xor31 ?_ ?_ | refine bnd_shr ?_ | refine bnd_shl ?_ ?_ | refine bnd_mod ?_ | refine bnd_andl ?_ | fail))) | (refine EqN.subN _ _ (by first | with_reducible rfl | with_reducible exact cst1 | with_reducible exact cst0 | with_reducible exact cst2 | with_reducible exact cst3 | with_reducible exact cst4 | with_reducible exact cst5 | with_reducible exact cst6 | with_reducible exact cst7 | with_reducible exact cst8 | with_reducible exact cst14 | with_reducible exact cst15 | with_reducible exact cst25 | with_reducible exact cst30 | with_reducible exact cst31 | fail) (by first | with_reducible rfl | with_reducible exact cst1 | with_reducible exact cst0 | with_reducible exact cst2 | with_reducible exact cst3 | with_reducible exact cst4 | with_reducible exact cst5 | with_reducible exact cst6 | with_reducible exact cst7 | with_reducible exact cst8 | with_reducible exact cst14 | with_reducible exact cst15 | with_reducible exact cst25 | with_reducible exact cst30 | with_reducible exact cst31 | fail) ?_ ?_; · (repeat' (first | omega | refine And.intro ?_ ?_ | exact bnd_andl (by omega) | exact bnd_andr (by omega) | refine bnd_or ?_ ?_ | refine bnd_or31 ?_ ?_ | refine bnd_xor ?_ ?_ | refine bnd_xor31 ?_ ?_ | refine bnd_shr ?_ | refine bnd_shl ?_ ?_ | refine bnd_mod ?_ | refine bnd_andl ?_ | fail))) | fail) | (refine SideN.mk ?_ ?_; · first | kernel_rfl | omega | exact List.cons_ne_nil _ _ | (simp; done) | (simp; omega) | exact trivial | assumption | fail) | (refine CallN.id ?_; first | refine CallN.det _ (predicate_c _ (hc (by omega)) _) ?_ | fail) | refine SegN.nth 0 k rfl (by omega) (fun _ => rfl) ?_ | refine SegN.nth 0 (k - 1) (by omega) (by omega) (fun _ => rfl) ?_ | refine DrawN.mk' [] ?_ | fail))); all_goals (conv => whnf)
    all_goals try ((refine ⟨⟨k + 1, by omega, by omega, ?_, .inl ⟨rfl, rfl⟩, rfl, _, rfl, ?_⟩⟩; rotate_left 1; (first | exact .inl rfl | exact .inr ⟨by simp [belowRE, below, belowL, tr, encS_below, Fm.sc_below, Fm.cb], by simp [belowH, Blk.below, belowL, below, encS_below, Fm.sc_below, Fm.cb]⟩ | fail); (repeat' (first | exact trivial | refine ⟨⟨_, rfl, ?_⟩, ?_⟩ | fail)); all_goals try (first | exact Wk.refl _ | exact Wk.of_eq (congrArg (AV.int _) (by omega)) | fail)))
  · have hkm : k = m := by omega
    subst hkm
    have hlt : Op.bytesLess (nm (l.getD (k - 1) 0)).toList (nm (l.getD k 0)).toList = false := by
      rw [nm_lt]; exact decide_eq_false hno
    (repeat' ((conv => whnf); (first | (refine IfN.id ?_; first | refine IfN.ff hlt ?_ | refine IfN.not ?_ | refine IfN.tt rfl ?_ | refine IfN.dT (by omega) ?_ | fail) | (refine EqN.id ?_; first | (refine EqN.subN _ _ (by first | with_reducible rfl | with_reducible exact cst1 | with_reducible exact cst0 | with_reducible exact cst2 | with_reducible exact cst3 | with_reducible exact cst4 | with_reducible exact cst5 | with_reducible exact cst6 | with_reducible exact cst7 | with_reducible exact cst8 | with_reducible exact cst14 | with_reducible exact cst15 | with_reducible exact cst25 | with_reducible exact cst30 | with_reducible exact cst31 | fail) (by first | with_reducible rfl | with_reducible exact cst1 | with_reducible exact cst0 | with_reducible exact cst2 | with_reducible exact cst3 | with_reducible exact cst4 | with_reducible exact cst5 | with_reducible exact cst6 | with_reducible exact cst7 | with_reducible exact cst8 | with_reducible exact cst14 | with_reducible exact cst15 | with_reducible exact cst25 | with_reducible exact cst30 | with_reducible exact cst31 | fail) ?_ ?_; · (repeat' (first | omega | refine And.intro ?_ ?_ | exact bnd_andl (by omega) | exact bnd_andr (by omega) | refine bnd_or ?_ ?_ | refine bnd_or31 ?_ ?_ | refine bnd_xor ?_ ?_ | refine bnd_xor31 ?_ ?_ | refine bnd_shr ?_ | refine bnd_shl ?_ ?_ | refine bnd_mod ?_ | refine bnd_andl ?_ | fail))) | fail) | (refine SideN.mk ?_ ?_; · first | kernel_rfl | omega | exact List.cons_ne_nil _ _ | (simp; done) | (simp; omega) | exact trivial | assumption | fail) | (refine CallN.id ?_; first | refine CallN.det _ (predicate_c _ (hc (by omega)) _) ?_ | fail) | refine SegN.nth 0 k rfl (by omega) (fun _ => rfl) ?_ | refine SegN.nth 0 (k - 1) (by omega) (by omega) (fun _ => rfl) ?_ | refine DrawN.mk' [] ?_ | fail))); all_goals (conv => whnf)
    all_goals exact EndN.det (by simp [below, belowL]) (Wk.of_eq (by first | rfl | simp))
def mdZ : List AV := [.int .u8 0, .int .i64 0, .nils, .int .i64 0, .nils, .nils, .nils]
theorem model_neg (l : List UInt8) (hl : NmOk l) (h12 : l.length ≤ 12) (v : Int) (hv : v < 0) (H : Heap) : VDet Tryd.prog 26 [.sl none l.length (l.flatMap encS), .int .i64 v] H (.tup [.agg mdZ, .int .i64 2]) := by
  have h2 := isNames_c l hl
  generalize l.flatMap encS = lc at *
  generalize l.length = k at *
  refine fn_det Tryd.E0 Tryd.mx Tryd.func26 (by kernel_rfl) rfl (Nat.le_of_ble_eq_true rfl) rfl fun hcl hbl => ?_
  (repeat' ((conv => whnf); (first | (refine IfN.id ?_; first | refine IfN.not ?_ | refine IfN.tt rfl ?_ | refine IfN.dT (by omega) ?_ | refine IfN.dF (by omega) ?_ | fail) | (refine CallN.id ?_; first | refine CallN.det _ (h2 _) ?_ | fail) | refine DrawN.mk' [] ?_ | fail))); all_goals (conv => whnf)
  exact EndN.det (by simp [mdZ, below, belowL]) (Wk.refl _)
theorem model_many (k : Nat) (nb : List AV) (v : Int) (hk : 12 < k) (H : Heap) : VDet Tryd.prog 26 [.sl none k nb, .int .i64 v] H (.tup [.agg mdZ, .int .i64 5]) := by
  refine fn_det Tryd.E0 Tryd.mx Tryd.func26 (by kernel_rfl) rfl (Nat.le_of_ble_eq_true rfl) rfl fun hcl hbl => ?_
  (repeat' ((conv => whnf); (first | (refine IfN.id ?_; first | refine IfN.dT (by omega) ?_ | fail) | refine DrawN.mk' [] ?_ | fail))); all_goals (conv => whnf)
  exact EndN.det (by simp [mdZ, below, belowL]) (Wk.refl _)
end Go.Proofs.YtekhodpmpjehaaaDoor
/-! text SF10 -/
namespace Go.Proofs.YtekhodpmpjehaaaDoor
open Go.Vsi
set_option maxHeartbeats 8000000
theorem wkl_mrel {g : G} {w : World} : ∀ {l l' : List AV} {b o : Nat}, WkL l l' → MRel g w l b o → MRel g w l' b o
  | [], [], _, _, _, h => h
  | v :: l, v' :: l', b, o, hw, h => by
    simp only [MRel] at h ⊢
    obtain ⟨⟨c, h1, h2, h3⟩, h4⟩ := h
    exact ⟨⟨c, h1, hw.1 _ _ _ h2, h3⟩, wkl_mrel hw.2 h4⟩
  | [], _ :: _, _, _, hw, _ => hw.elim
  | _ :: _, [], _, _, hw, _ => hw.elim
theorem wk_sxl {n : Nat} {l l' : List AV} (h : WkL l l') : Wk (.sx n l) (.sl none n l') := fun g w c hr => by
  simp only [VRel] at hr ⊢
  obtain ⟨A, h1, h2⟩ := hr
  refine ⟨A, n, h1, Nat.le_refl _, ?_, fun t e => by cases e⟩
  rcases h2 with h2 | ⟨b, o, h2, h3⟩
  · subst h2
    cases l' with
    | nil => exact .inl rfl
    | cons v l' => exact h.elim
  · exact .inr ⟨b, o, h2, wkl_mrel h h3⟩
theorem wkl_rfl : ∀ l : List AV, WkL l l
  | [] => trivial
  | v :: l => ⟨Wk.refl v, wkl_rfl l⟩
theorem wkl_app : ∀ {a b c d : List AV}, WkL a b → WkL c d → WkL (a ++ c) (b ++ d)
  | [], [], _, _, _, h => h
  | _ :: _, _ :: _, _, _, hw, h => ⟨hw.1, wkl_app hw.2 h⟩
  | [], _ :: _, _, _, hw, _ => hw.elim
  | _ :: _, [], _, _, hw, _ => hw.elim
attribute [local irreducible] VW VCall VO bits

/-! ### the law TruthWrong -/
theorem SubN.eq {l l' : List AV} {o n : Nat} {k : List AV → Prop} (h : l = l') (a : SubN l' o n k) : SubN l o n k := h ▸ a
theorem join_g (k n : Nat) (l : List AV) (hb : ∀ m, belowL m l) (H : Heap) : VDet Tryd.prog 16 [.int .u8 k, .sl none n l] H (.agg [.int .u8 k, .str .empty, .sl none 0 [], .sl none n l]) := by
  refine fn_det Tryd.E0 Tryd.mx Tryd.func16 (by kernel_rfl) rfl (Nat.le_of_ble_eq_true rfl) rfl fun hcl hbl => ?_
  (repeat' ((conv => whnf); (first | refine DrawN.mk' [] ?_ | fail))); all_goals (conv => whnf)
  exact EndN.det (by simp [below, belowL, hb]) (wk_agg ⟨Wk.refl _, Wk.refl _, wk_nils, Wk.refl _, trivial⟩)
theorem letters_x (H : Heap) : VDet Tryd.prog 14 [] H (.sx 12 (lets.flatMap encS)) := by
  refine fn_det Tryd.E0 Tryd.mx Tryd.func14 (by kernel_rfl) rfl (Nat.le_of_ble_eq_true rfl) rfl fun hcl hbl => ?_
  (repeat' ((conv => whnf); (first | refine DrawN.mk' [] ?_ | fail))); all_goals (conv => whnf)
  exact EndN.det (by simp [below, belowL, lets, encS]) (Wk.of_eq (by kernel_rfl))
theorem fi_cells (f : Fm) : (fI f).cells = f.cells := rfl
theorem atZ (H : Heap) : VDet Tryd.prog 22 [.str ⟨#[90]⟩] H (.agg (Fm.at 180).cells) := by
  have := atom_c 180 H
  rwa [show nm 180 = ⟨#[90]⟩ by kernel_rfl] at this
theorem lets_L : lets.flatMap encS ++ [.str ⟨#[76]⟩] = (lets ++ [152]).flatMap encS := by kernel_rfl
theorem capsB : ∀ i, i < 12 → cap ((lets.drop 1 ++ [152]).getD i 0) := fun i hi => by
  have : ∀ i, i < 12 → 130 ≤ ((lets.drop 1 ++ [152]).getD i 0).toNat ∧ ((lets.drop 1 ++ [152]).getD i 0).toNat ≤ 181 := by decide
  exact ⟨(this i hi).1, (this i hi).2⟩
theorem badnames (H : Heap) : VDet Tryd.prog 40 [.sl none 12 ((lets.drop 1 ++ [152]).flatMap encS)] H (.bool false) :=
  isNames_f (lets.drop 1 ++ [152]) 11 (by decide) ⟨by decide, by decide⟩ (fun i hi => capsB i hi) (show ∀ i, 0 < i → i < 11 → ((lets.drop 1 ++ [152]).getD (i - 1) 0).toNat < ((lets.drop 1 ++ [152]).getD i 0).toNat by
    intro i h1 h2
    have : i = 1 ∨ i = 2 ∨ i = 3 ∨ i = 4 ∨ i = 5 ∨ i = 6 ∨ i = 7 ∨ i = 8 ∨ i = 9 ∨ i = 10 := by omega
    rcases this with rfl | rfl | rfl | rfl | rfl | rfl | rfl | rfl | rfl | rfl <;> decide) (by decide) H
/-- what is wrong -/
def wrgI (f : Fm) : Nat → It
  | 0 => fI (.f1 10 f)
  | 1 => fI (.f2 14 f f)
  | 2 => allI f
  | 3 => atmI
  | _ => metI
theorem wrg_bad (f : Fm) (hs : f.Sz 30) (c : Nat) : Bad (andI f (wrgI f c)) := by
  have hn := hs.nodes
  have hd := hs.depth
  have hok := hs.nice.ok
  have hpr := hs.nice.pr
  have n1 : (Fm.f1 10 f).nodes = f.nodes + 1 := rfl
  have n2 : (Fm.f2 14 f f).nodes = f.nodes + f.nodes + 1 := rfl
  have d1 : (Fm.f1 10 f).depth = f.depth + 1 := rfl
  have d2 : (Fm.f2 14 f f).depth = max f.depth f.depth + 1 := rfl
  have fb := fun n => Fm.cb n f
  match c with
  | 0 => exact bad_and f hok hpr (wrgI f 0) (form_c (.f1 10 f) ⟨.inr (.inl rfl), hok⟩) ⟨by omega, by omega⟩ ⟨by omega, by omega, by omega⟩ (fun _ => prop_op _ (.inl ⟨by show 8 ≤ 10; omega, by show 10 ≤ 255; omega⟩)) fun n => Fm.cb n (.f1 10 f)
  | 1 => exact bad_and f hok hpr (wrgI f 1) (form_c (.f2 14 f f) ⟨.inr (.inr (.inr (.inr rfl))), hok, hok⟩) ⟨by omega, by omega⟩ ⟨by omega, by omega, by omega⟩ (fun _ => prop_op _ (.inl ⟨by show 8 ≤ 14; omega, by show 14 ≤ 255; omega⟩)) fun n => Fm.cb n (.f2 14 f f)
  | 2 => exact bad_and f hok hpr (wrgI f 2) (form_all f (form_c f hok)) ⟨by omega, by omega⟩ ⟨by omega, by omega, by omega⟩ (fun _ => prop_op _ (.inl ⟨by show 8 ≤ 8; omega, by show 8 ≤ 255; omega⟩)) fun n => by simp [wrgI, allI, It.cells, belowL, below, fb]
  | 3 => exact bad_and f hok hpr (wrgI f 3) form_atm ⟨by omega, by omega⟩ ⟨by omega, by omega, by omega⟩ (fun _ => prop_op _ (.inr ⟨rfl, rfl⟩)) fun n => by simp [wrgI, atmI, tmA, It.cells, belowL, below]
  | c + 4 => exact bad_and f hok hpr metI form_met ⟨by omega, by omega⟩ ⟨by omega, by omega, by omega⟩ (fun h => by cases h) fun n => by simp [metI, It.cells, belowL, below]
theorem wrong_c (l : List Nat) (hl : l.length ≤ 9223372036854775807) (hb : ∀ i, i < l.length → l.getD i 0 ≤ 255) (n : Int) (way : Nat) (hw : way ≤ 255) (H : Heap) :
    VDet Tryd.prog 9 [.sl none l.length (l.flatMap encB), .int .i64 n, .int .u8 way] H (.bool true) := by
  have b1 := built_c l hl hb
  have z1 := blt30 l
  generalize bltF l = f at *
  generalize l.flatMap encB = lb at *
  have hbad := wrg_bad f z1
  have gf := z1.good
  have rf := right_c f gf.ok gf.small gf.pr
  have hok := lets_ok
  have fb := fun n => Fm.cb n f
  obtain ⟨c, hc, hc5⟩ : ∃ c, way % 5 = c ∧ c < 5 := ⟨_, rfl, Nat.mod_lt _ (by decide)⟩
  have big := eval_err (fI f) (.sl none 12 (lets.flatMap encS)) (max n 4096) 2 (by decide) (named_big f gf lets hok (by decide) (max n 4096) (.inr (by show ((2 ^ 12 : Nat) : Int) ≤ _; omega)))
  have tnm0 : ∀ H, VDet Tryd.prog 37 [.agg (fI f).cells, .sl none 12 ((lets.drop 1 ++ [152]).flatMap encS), .int .i64 0] H (.tup [.nilp, .int .i64 2]) := by
    rw [fi_cells]
    exact named_names f gf 12 ((lets.drop 1 ++ [152]).flatMap encS) (by omega) badnames 0
  have tnm := table_err (fI f) (.sl none 12 ((lets.drop 1 ++ [152]).flatMap encS)) 2 (by decide) tnm0
  have tz := table_err (fI (.at 180)) (.sl none 12 (lets.flatMap encS)) 6 (by decide) (named_none (.at 180) (good_of ⟨by decide, by decide⟩ trivial (by decide)) lets hok (by decide) (show ¬ (180 : UInt8) ∈ lets by decide) 0 (by decide))
  have mn := model_neg lets hok (by decide) (min n (-1)) (by omega)
  rw [fi_cells] at big tnm tz
  have j1 : ∀ H, VDet Tryd.prog 16 [.int .u8 10, .sx 1 f.cells] H (.agg (Fm.f1 10 f).cells) := fun H => VDet.wk (join1_c 10 f H) ⟨Wk.refl _, wk_sx _ _, trivial⟩
  have j2 := jn2 14 f f
  have hbx := hbad c
  have hbr := hbx.right
  have e1 := eval_err (andI f (wrgI f c)) (.sl none 12 (lets.flatMap encS)) 0 2 (by decide) (named_bad _ hbx 12 _ 0 (by omega))
  have e2 := table_err (andI f (wrgI f c)) (.sl none 12 (lets.flatMap encS)) 2 (by decide) (named_bad _ hbx 12 _ 0 (by omega))
  have e3 := count_bad _ hbx
  have e4 : ∀ H, VDet Tryd.prog 20 [.agg [.sx 1 f.cells, .sx 1 (andI f (wrgI f c)).cells]] H (.tup [.int .i64 0, .bool false, .int .i64 2]) := fun H => VDet.wk (falsify_bad f rf _ hbx H) ⟨wk_agg ⟨wk_sx _ _, wk_sx _ _, trivial⟩, trivial⟩
  have e5 : ∀ H, VDet Tryd.prog 15 [.agg [.sx 1 (andI f (wrgI f c)).cells, .nils]] H (.tup [.bool false, .int .i64 2]) := fun H => VDet.wk (follows_bad _ hbx H) ⟨wk_agg ⟨wk_sx _ _, wk_nils, trivial⟩, trivial⟩
  have e6 := equal_bad f rf _ hbx
  have e7 : ∀ (t : Option Nat) (nb : List AV) H, VDet Tryd.prog 21 [.agg (andI f (wrgI f c)).cells, .sl t 13 nb, .int .i64 (-1)] H (.tup [.bool false, .int .i64 5]) := fun t nb H => VDet.wk (eval_err _ (.sl none 13 nb) (-1) 5 (by decide) (named_many _ 13 nb (-1) (by omega)) H) ⟨Wk.refl _, wk_sl _ _ _, Wk.refl _, trivial⟩
  have e8 : ∀ (t : Option Nat) (nb : List AV) H, VDet Tryd.prog 26 [.sl t 13 nb, .int .i64 0] H (.tup [.agg mdZ, .int .i64 5]) := fun t nb H => VDet.wk (model_many 13 nb 0 (by omega) H) ⟨wk_sl _ _ _, Wk.refl _, trivial⟩
  have jg : ∀ raw, WkL raw (wrgI f c).cells → ∀ H, VDet Tryd.prog 16 [.int .u8 4, .sx 2 (f.cells ++ raw)] H (.agg (andI f (wrgI f c)).cells) := fun raw hr H =>
    VDet.wk (join_g 4 2 (f.cells ++ (wrgI f c).cells) (fun m => by
      have := hbx.bel m
      simp only [andI, It.cells, belowL, below, true_and, and_true] at this
      exact this.2.2) H) ⟨Wk.refl _, wk_sxl (wkl_app (wkl_rfl _) hr), trivial⟩
  clear hbad hbx z1 gf
  have : c = 0 ∨ c = 1 ∨ c = 2 ∨ c = 3 ∨ c = 4 := by omega
  rcases this with rfl | rfl | rfl | rfl | rfl
  · have jc := jg ((Fm.f1 10 f).cells) (wkl_rfl _)
    refine fn_det Tryd.E0 Tryd.mx Tryd.func9 (by kernel_rfl) rfl (Nat.le_of_ble_eq_true rfl) rfl fun hcl hbl => ?_
    (repeat' ((conv => whnf); (first | (refine IfN.id ?_; first | refine IfN.not ?_ | refine IfN.tt rfl ?_ | fail) | (refine EqN.id ?_; first | refine EqN.remC _ rfl rfl hc ?_ | fail) | (refine SideN.mk ?_ ?_; · first | kernel_rfl | omega | exact List.cons_ne_nil _ _ | (simp; done) | (simp; omega) | exact trivial | assumption | fail) | refine NatN.mk _ rfl ?_ | (refine CallN.id ?_; first | refine CallN.det _ (awake_c _) ?_ | refine CallN.det _ (b1 _) ?_ | refine CallN.det _ (jc _) ?_ | refine CallN.det _ (letters_x _) ?_ | refine CallN.det _ (e3 _) ?_ | refine CallN.det _ (e4 _) ?_ | refine CallN.det _ (e5 _) ?_ | refine CallN.det _ (e6 _) ?_ | refine CallN.det _ (VDet.wk (mn _) ⟨wk_sx _ _, Wk.refl _, trivial⟩) ?_ | fail) | (refine CallD.id ?_; first | refine CallD.det _ (fun _ hq X => j1 _) ?_ | refine CallD.det _ (fun _ hq X => j2 _) ?_ | refine CallD.det _ (fun _ hq X => letters_x _) ?_ | refine CallD.det _ (fun _ hq X => VDet.wk (e1 _) ⟨Wk.refl _, wk_sx _ _, Wk.refl _, trivial⟩) ?_ | refine CallD.det _ (fun _ hq X => VDet.wk (e2 _) ⟨Wk.refl _, wk_sx _ _, trivial⟩) ?_ | refine CallD.det _ (fun _ hq X => VDet.wk (big _) ⟨Wk.refl _, wk_sx _ _, Wk.refl _, trivial⟩) ?_ | refine CallD.det _ (fun _ hq X => VDet.wk (tnm _) ⟨Wk.refl _, Wk.of_eq (by kernel_rfl), trivial⟩) ?_ | fail) | refine OrN.l (SideN.mk ⟨Nat.le_of_ble_eq_true rfl, rfl, rfl, by dsimp only; omega, by simp only [maxLen]; omega⟩ ?_) | refine SubN.eq lets_L (SubN.flat (lo := 1) (n := 12 + 1 - 1) (fun _ => rfl) (by decide) ?_) | refine SegN.mk _ (seg_rfl rfl) ?_ | refine DrawN.mk' [] ?_ | fail))); all_goals (conv => whnf)
    refine LoopN.rounds Tryd.E0 Tryd.mx 10 rfl ?_
    (repeat' ((conv => whnf); (first | (refine IfN.id ?_; first | refine IfN.not ?_ | refine IfN.tt rfl ?_ | refine IfN.ff rfl ?_ | fail) | (refine EqN.id ?_; first | (refine EqN.addN _ _ (by first | with_reducible rfl | with_reducible exact cst1 | with_reducible exact cst0 | with_reducible exact cst2 | with_reducible exact cst3 | with_reducible exact cst4 | with_reducible exact cst5 | with_reducible exact cst6 | with_reducible exact cst7 | with_reducible exact cst8 | with_reducible exact cst14 | with_reducible exact cst15 | with_reducible exact cst25 | with_reducible exact cst30 | with_reducible exact cst31 | fail) (by first | with_reducible rfl | with_reducible exact cst1 | with_reducible exact cst0 | with_reducible exact cst2 | with_reducible exact cst3 | with_reducible exact cst4 | with_reducible exact cst5 | with_reducible exact cst6 | with_reducible exact cst7 | with_reducible exact cst8 | with_reducible exact cst14 | with_reducible exact cst15 | with_reducible exact cst25 | with_reducible exact cst30 | with_reducible exact cst31 | fail) ?_ ?_; · (repeat' (first | omega | refine And.intro ?_ ?_ | exact bnd_andl (by omega) | exact bnd_andr (by omega) | refine bnd_or ?_ ?_ | refine bnd_or31 ?_ ?_ | refine bnd_xor ?_ ?_ | refine bnd_xor31 ?_ ?_ | refine bnd_shr ?_ | refine bnd_shl ?_ ?_ | refine bnd_mod ?_ | refine bnd_andl ?_ | fail))) | fail) | (refine SideN.mk ?_ ?_; · first | kernel_rfl | omega | exact List.cons_ne_nil _ _ | (simp; done) | (simp; omega) | exact trivial | assumption | fail) | (refine CallN.id ?_; first | refine CallN.det _ (letters_x _) ?_ | refine CallN.det _ (rf _) ?_ | refine CallN.det _ (hbr _) ?_ | refine CallN.det _ (e7 _ _ _) ?_ | refine CallN.det _ (e8 _ _ _) ?_ | refine CallN.det _ (atZ _) ?_ | refine CallN.det _ (VDet.wk (tz _) ⟨Wk.refl _, wk_sx _ _, trivial⟩) ?_ | fail) | refine OrN.l (SideN.mk ⟨Nat.le_of_ble_eq_true rfl, rfl, rfl, by dsimp only; omega, by simp only [maxLen]; omega⟩ ?_) | refine SegN.mk _ (seg_rfl rfl) ?_ | refine DrawN.mk' [] ?_ | fail))); all_goals (conv => whnf)
    exact EndN.det trivial (Wk.refl _)
  · have jc := jg ((Fm.f2 14 f f).cells) (wkl_rfl _)
    refine fn_det Tryd.E0 Tryd.mx Tryd.func9 (by kernel_rfl) rfl (Nat.le_of_ble_eq_true rfl) rfl fun hcl hbl => ?_
    (repeat' ((conv => whnf); (first | (refine IfN.id ?_; first | refine IfN.not ?_ | refine IfN.tt rfl ?_ | fail) | (refine EqN.id ?_; first | refine EqN.remC _ rfl rfl hc ?_ | fail) | (refine SideN.mk ?_ ?_; · first | kernel_rfl | omega | exact List.cons_ne_nil _ _ | (simp; done) | (simp; omega) | exact trivial | assumption | fail) | refine NatN.mk _ rfl ?_ | (refine CallN.id ?_; first | refine CallN.det _ (awake_c _) ?_ | refine CallN.det _ (b1 _) ?_ | refine CallN.det _ (jc _) ?_ | refine CallN.det _ (letters_x _) ?_ | refine CallN.det _ (e3 _) ?_ | refine CallN.det _ (e4 _) ?_ | refine CallN.det _ (e5 _) ?_ | refine CallN.det _ (e6 _) ?_ | refine CallN.det _ (VDet.wk (mn _) ⟨wk_sx _ _, Wk.refl _, trivial⟩) ?_ | fail) | (refine CallD.id ?_; first | refine CallD.det _ (fun _ hq X => j1 _) ?_ | refine CallD.det _ (fun _ hq X => j2 _) ?_ | refine CallD.det _ (fun _ hq X => letters_x _) ?_ | refine CallD.det _ (fun _ hq X => VDet.wk (e1 _) ⟨Wk.refl _, wk_sx _ _, Wk.refl _, trivial⟩) ?_ | refine CallD.det _ (fun _ hq X => VDet.wk (e2 _) ⟨Wk.refl _, wk_sx _ _, trivial⟩) ?_ | refine CallD.det _ (fun _ hq X => VDet.wk (big _) ⟨Wk.refl _, wk_sx _ _, Wk.refl _, trivial⟩) ?_ | refine CallD.det _ (fun _ hq X => VDet.wk (tnm _) ⟨Wk.refl _, Wk.of_eq (by kernel_rfl), trivial⟩) ?_ | fail) | refine OrN.l (SideN.mk ⟨Nat.le_of_ble_eq_true rfl, rfl, rfl, by dsimp only; omega, by simp only [maxLen]; omega⟩ ?_) | refine SubN.eq lets_L (SubN.flat (lo := 1) (n := 12 + 1 - 1) (fun _ => rfl) (by decide) ?_) | refine SegN.mk _ (seg_rfl rfl) ?_ | refine DrawN.mk' [] ?_ | fail))); all_goals (conv => whnf)
    refine LoopN.rounds Tryd.E0 Tryd.mx 10 rfl ?_
    (repeat' ((conv => whnf); (first | (refine IfN.id ?_; first | refine IfN.not ?_ | refine IfN.tt rfl ?_ | refine IfN.ff rfl ?_ | fail) | (refine EqN.id ?_; first | (refine EqN.addN _ _ (by first | with_reducible rfl | with_reducible exact cst1 | with_reducible exact cst0 | with_reducible exact cst2 | with_reducible exact cst3 | with_reducible exact cst4 | with_reducible exact cst5 | with_reducible exact cst6 | with_reducible exact cst7 | with_reducible exact cst8 | with_reducible exact cst14 | with_reducible exact cst15 | with_reducible exact cst25 | with_reducible exact cst30 | with_reducible exact cst31 | fail) (by first | with_reducible rfl | with_reducible exact cst1 | with_reducible exact cst0 | with_reducible exact cst2 | with_reducible exact cst3 | with_reducible exact cst4 | with_reducible exact cst5 | with_reducible exact cst6 | with_reducible exact cst7 | with_reducible exact cst8 | with_reducible exact cst14 | with_reducible exact cst15 | with_reducible exact cst25 | with_reducible exact cst30 | with_reducible exact cst31 | fail) ?_ ?_; · (repeat' (first | omega | refine And.intro ?_ ?_ | exact bnd_andl (by omega) | exact bnd_andr (by omega) | refine bnd_or ?_ ?_ | refine bnd_or31 ?_ ?_ | refine bnd_xor ?_ ?_ | refine bnd_xor31 ?_ ?_ | refine bnd_shr ?_ | refine bnd_shl ?_ ?_ | refine bnd_mod ?_ | refine bnd_andl ?_ | fail))) | fail) | (refine SideN.mk ?_ ?_; · first | kernel_rfl | omega | exact List.cons_ne_nil _ _ | (simp; done) | (simp; omega) | exact trivial | assumption | fail) | (refine CallN.id ?_; first | refine CallN.det _ (letters_x _) ?_ | refine CallN.det _ (rf _) ?_ | refine CallN.det _ (hbr _) ?_ | refine CallN.det _ (e7 _ _ _) ?_ | refine CallN.det _ (e8 _ _ _) ?_ | refine CallN.det _ (atZ _) ?_ | refine CallN.det _ (VDet.wk (tz _) ⟨Wk.refl _, wk_sx _ _, trivial⟩) ?_ | fail) | refine OrN.l (SideN.mk ⟨Nat.le_of_ble_eq_true rfl, rfl, rfl, by dsimp only; omega, by simp only [maxLen]; omega⟩ ?_) | refine SegN.mk _ (seg_rfl rfl) ?_ | refine DrawN.mk' [] ?_ | fail))); all_goals (conv => whnf)
    exact EndN.det trivial (Wk.refl _)
  · have jc := jg [.int .u8 (8 : Int), .str ⟨#[120]⟩, .nils, .sx 1 f.cells] ⟨Wk.refl _, Wk.refl _, wk_nils, wk_sx _ _, trivial⟩
    refine fn_det Tryd.E0 Tryd.mx Tryd.func9 (by kernel_rfl) rfl (Nat.le_of_ble_eq_true rfl) rfl fun hcl hbl => ?_
    (repeat' ((conv => whnf); (first | (refine IfN.id ?_; first | refine IfN.not ?_ | refine IfN.tt rfl ?_ | fail) | (refine EqN.id ?_; first | refine EqN.remC _ rfl rfl hc ?_ | fail) | (refine SideN.mk ?_ ?_; · first | kernel_rfl | omega | exact List.cons_ne_nil _ _ | (simp; done) | (simp; omega) | exact trivial | assumption | fail) | refine NatN.mk _ rfl ?_ | (refine CallN.id ?_; first | refine CallN.det _ (awake_c _) ?_ | refine CallN.det _ (b1 _) ?_ | refine CallN.det _ (jc _) ?_ | refine CallN.det _ (letters_x _) ?_ | refine CallN.det _ (e3 _) ?_ | refine CallN.det _ (e4 _) ?_ | refine CallN.det _ (e5 _) ?_ | refine CallN.det _ (e6 _) ?_ | refine CallN.det _ (VDet.wk (mn _) ⟨wk_sx _ _, Wk.refl _, trivial⟩) ?_ | fail) | (refine CallD.id ?_; first | refine CallD.det _ (fun _ hq X => j1 _) ?_ | refine CallD.det _ (fun _ hq X => j2 _) ?_ | refine CallD.det _ (fun _ hq X => letters_x _) ?_ | refine CallD.det _ (fun _ hq X => VDet.wk (e1 _) ⟨Wk.refl _, wk_sx _ _, Wk.refl _, trivial⟩) ?_ | refine CallD.det _ (fun _ hq X => VDet.wk (e2 _) ⟨Wk.refl _, wk_sx _ _, trivial⟩) ?_ | refine CallD.det _ (fun _ hq X => VDet.wk (big _) ⟨Wk.refl _, wk_sx _ _, Wk.refl _, trivial⟩) ?_ | refine CallD.det _ (fun _ hq X => VDet.wk (tnm _) ⟨Wk.refl _, Wk.of_eq (by kernel_rfl), trivial⟩) ?_ | fail) | refine OrN.l (SideN.mk ⟨Nat.le_of_ble_eq_true rfl, rfl, rfl, by dsimp only; omega, by simp only [maxLen]; omega⟩ ?_) | refine SubN.eq lets_L (SubN.flat (lo := 1) (n := 12 + 1 - 1) (fun _ => rfl) (by decide) ?_) | refine SegN.mk _ (seg_rfl rfl) ?_ | refine DrawN.mk' [] ?_ | fail))); all_goals (conv => whnf)
    refine LoopN.rounds Tryd.E0 Tryd.mx 10 rfl ?_
    (repeat' ((conv => whnf); (first | (refine IfN.id ?_; first | refine IfN.not ?_ | refine IfN.tt rfl ?_ | refine IfN.ff rfl ?_ | fail) | (refine EqN.id ?_; first | (refine EqN.addN _ _ (by first | with_reducible rfl | with_reducible exact cst1 | with_reducible exact cst0 | with_reducible exact cst2 | with_reducible exact cst3 | with_reducible exact cst4 | with_reducible exact cst5 | with_reducible exact cst6 | with_reducible exact cst7 | with_reducible exact cst8 | with_reducible exact cst14 | with_reducible exact cst15 | with_reducible exact cst25 | with_reducible exact cst30 | with_reducible exact cst31 | fail) (by first | with_reducible rfl | with_reducible exact cst1 | with_reducible exact cst0 | with_reducible exact cst2 | with_reducible exact cst3 | with_reducible exact cst4 | with_reducible exact cst5 | with_reducible exact cst6 | with_reducible exact cst7 | with_reducible exact cst8 | with_reducible exact cst14 | with_reducible exact cst15 | with_reducible exact cst25 | with_reducible exact cst30 | with_reducible exact cst31 | fail) ?_ ?_; · (repeat' (first | omega | refine And.intro ?_ ?_ | exact bnd_andl (by omega) | exact bnd_andr (by omega) | refine bnd_or ?_ ?_ | refine bnd_or31 ?_ ?_ | refine bnd_xor ?_ ?_ | refine bnd_xor31 ?_ ?_ | refine bnd_shr ?_ | refine bnd_shl ?_ ?_ | refine bnd_mod ?_ | refine bnd_andl ?_ | fail))) | fail) | (refine SideN.mk ?_ ?_; · first | kernel_rfl | omega | exact List.cons_ne_nil _ _ | (simp; done) | (simp; omega) | exact trivial | assumption | fail) | (refine CallN.id ?_; first | refine CallN.det _ (letters_x _) ?_ | refine CallN.det _ (rf _) ?_ | refine CallN.det _ (hbr _) ?_ | refine CallN.det _ (e7 _ _ _) ?_ | refine CallN.det _ (e8 _ _ _) ?_ | refine CallN.det _ (atZ _) ?_ | refine CallN.det _ (VDet.wk (tz _) ⟨Wk.refl _, wk_sx _ _, trivial⟩) ?_ | fail) | refine OrN.l (SideN.mk ⟨Nat.le_of_ble_eq_true rfl, rfl, rfl, by dsimp only; omega, by simp only [maxLen]; omega⟩ ?_) | refine SegN.mk _ (seg_rfl rfl) ?_ | refine DrawN.mk' [] ?_ | fail))); all_goals (conv => whnf)
    exact EndN.det trivial (Wk.refl _)
  · have jc := jg [.int .u8 (1 : Int), .str ⟨#[80]⟩, .sx 1 [.bool false, .str ⟨#[97]⟩, .nils], .nils] ⟨Wk.refl _, Wk.refl _, wk_sxl ⟨Wk.refl _, Wk.refl _, wk_nils, trivial⟩, wk_nils, trivial⟩
    refine fn_det Tryd.E0 Tryd.mx Tryd.func9 (by kernel_rfl) rfl (Nat.le_of_ble_eq_true rfl) rfl fun hcl hbl => ?_
    (repeat' ((conv => whnf); (first | (refine IfN.id ?_; first | refine IfN.not ?_ | refine IfN.tt rfl ?_ | fail) | (refine EqN.id ?_; first | refine EqN.remC _ rfl rfl hc ?_ | fail) | (refine SideN.mk ?_ ?_; · first | kernel_rfl | omega | exact List.cons_ne_nil _ _ | (simp; done) | (simp; omega) | exact trivial | assumption | fail) | refine NatN.mk _ rfl ?_ | (refine CallN.id ?_; first | refine CallN.det _ (awake_c _) ?_ | refine CallN.det _ (b1 _) ?_ | refine CallN.det _ (jc _) ?_ | refine CallN.det _ (letters_x _) ?_ | refine CallN.det _ (e3 _) ?_ | refine CallN.det _ (e4 _) ?_ | refine CallN.det _ (e5 _) ?_ | refine CallN.det _ (e6 _) ?_ | refine CallN.det _ (VDet.wk (mn _) ⟨wk_sx _ _, Wk.refl _, trivial⟩) ?_ | fail) | (refine CallD.id ?_; first | refine CallD.det _ (fun _ hq X => j1 _) ?_ | refine CallD.det _ (fun _ hq X => j2 _) ?_ | refine CallD.det _ (fun _ hq X => letters_x _) ?_ | refine CallD.det _ (fun _ hq X => VDet.wk (e1 _) ⟨Wk.refl _, wk_sx _ _, Wk.refl _, trivial⟩) ?_ | refine CallD.det _ (fun _ hq X => VDet.wk (e2 _) ⟨Wk.refl _, wk_sx _ _, trivial⟩) ?_ | refine CallD.det _ (fun _ hq X => VDet.wk (big _) ⟨Wk.refl _, wk_sx _ _, Wk.refl _, trivial⟩) ?_ | refine CallD.det _ (fun _ hq X => VDet.wk (tnm _) ⟨Wk.refl _, Wk.of_eq (by kernel_rfl), trivial⟩) ?_ | fail) | refine OrN.l (SideN.mk ⟨Nat.le_of_ble_eq_true rfl, rfl, rfl, by dsimp only; omega, by simp only [maxLen]; omega⟩ ?_) | refine SubN.eq lets_L (SubN.flat (lo := 1) (n := 12 + 1 - 1) (fun _ => rfl) (by decide) ?_) | refine SegN.mk _ (seg_rfl rfl) ?_ | refine DrawN.mk' [] ?_ | fail))); all_goals (conv => whnf)
    refine LoopN.rounds Tryd.E0 Tryd.mx 10 rfl ?_
    (repeat' ((conv => whnf); (first | (refine IfN.id ?_; first | refine IfN.not ?_ | refine IfN.tt rfl ?_ | refine IfN.ff rfl ?_ | fail) | (refine EqN.id ?_; first | (refine EqN.addN _ _ (by first | with_reducible rfl | with_reducible exact cst1 | with_reducible exact cst0 | with_reducible exact cst2 | with_reducible exact cst3 | with_reducible exact cst4 | with_reducible exact cst5 | with_reducible exact cst6 | with_reducible exact cst7 | with_reducible exact cst8 | with_reducible exact cst14 | with_reducible exact cst15 | with_reducible exact cst25 | with_reducible exact cst30 | with_reducible exact cst31 | fail) (by first | with_reducible rfl | with_reducible exact cst1 | with_reducible exact cst0 | with_reducible exact cst2 | with_reducible exact cst3 | with_reducible exact cst4 | with_reducible exact cst5 | with_reducible exact cst6 | with_reducible exact cst7 | with_reducible exact cst8 | with_reducible exact cst14 | with_reducible exact cst15 | with_reducible exact cst25 | with_reducible exact cst30 | with_reducible exact cst31 | fail) ?_ ?_; · (repeat' (first | omega | refine And.intro ?_ ?_ | exact bnd_andl (by omega) | exact bnd_andr (by omega) | refine bnd_or ?_ ?_ | refine bnd_or31 ?_ ?_ | refine bnd_xor ?_ ?_ | refine bnd_xor31 ?_ ?_ | refine bnd_shr ?_ | refine bnd_shl ?_ ?_ | refine bnd_mod ?_ | refine bnd_andl ?_ | fail))) | fail) | (refine SideN.mk ?_ ?_; · first | kernel_rfl | omega | exact List.cons_ne_nil _ _ | (simp; done) | (simp; omega) | exact trivial | assumption | fail) | (refine CallN.id ?_; first | refine CallN.det _ (letters_x _) ?_ | refine CallN.det _ (rf _) ?_ | refine CallN.det _ (hbr _) ?_ | refine CallN.det _ (e7 _ _ _) ?_ | refine CallN.det _ (e8 _ _ _) ?_ | refine CallN.det _ (atZ _) ?_ | refine CallN.det _ (VDet.wk (tz _) ⟨Wk.refl _, wk_sx _ _, trivial⟩) ?_ | fail) | refine OrN.l (SideN.mk ⟨Nat.le_of_ble_eq_true rfl, rfl, rfl, by dsimp only; omega, by simp only [maxLen]; omega⟩ ?_) | refine SegN.mk _ (seg_rfl rfl) ?_ | refine DrawN.mk' [] ?_ | fail))); all_goals (conv => whnf)
    exact EndN.det trivial (Wk.refl _)
  · have jc := jg [.int .u8 (15 : Int), .str ⟨#[63, 65]⟩, .nils, .nils] ⟨Wk.refl _, Wk.refl _, wk_nils, wk_nils, trivial⟩
    refine fn_det Tryd.E0 Tryd.mx Tryd.func9 (by kernel_rfl) rfl (Nat.le_of_ble_eq_true rfl) rfl fun hcl hbl => ?_
    (repeat' ((conv => whnf); (first | (refine IfN.id ?_; first | refine IfN.not ?_ | refine IfN.tt rfl ?_ | fail) | (refine EqN.id ?_; first | refine EqN.remC _ rfl rfl hc ?_ | fail) | (refine SideN.mk ?_ ?_; · first | kernel_rfl | omega | exact List.cons_ne_nil _ _ | (simp; done) | (simp; omega) | exact trivial | assumption | fail) | refine NatN.mk _ rfl ?_ | (refine CallN.id ?_; first | refine CallN.det _ (awake_c _) ?_ | refine CallN.det _ (b1 _) ?_ | refine CallN.det _ (jc _) ?_ | refine CallN.det _ (letters_x _) ?_ | refine CallN.det _ (e3 _) ?_ | refine CallN.det _ (e4 _) ?_ | refine CallN.det _ (e5 _) ?_ | refine CallN.det _ (e6 _) ?_ | refine CallN.det _ (VDet.wk (mn _) ⟨wk_sx _ _, Wk.refl _, trivial⟩) ?_ | fail) | (refine CallD.id ?_; first | refine CallD.det _ (fun _ hq X => j1 _) ?_ | refine CallD.det _ (fun _ hq X => j2 _) ?_ | refine CallD.det _ (fun _ hq X => letters_x _) ?_ | refine CallD.det _ (fun _ hq X => VDet.wk (e1 _) ⟨Wk.refl _, wk_sx _ _, Wk.refl _, trivial⟩) ?_ | refine CallD.det _ (fun _ hq X => VDet.wk (e2 _) ⟨Wk.refl _, wk_sx _ _, trivial⟩) ?_ | refine CallD.det _ (fun _ hq X => VDet.wk (big _) ⟨Wk.refl _, wk_sx _ _, Wk.refl _, trivial⟩) ?_ | refine CallD.det _ (fun _ hq X => VDet.wk (tnm _) ⟨Wk.refl _, Wk.of_eq (by kernel_rfl), trivial⟩) ?_ | fail) | refine OrN.l (SideN.mk ⟨Nat.le_of_ble_eq_true rfl, rfl, rfl, by dsimp only; omega, by simp only [maxLen]; omega⟩ ?_) | refine SubN.eq lets_L (SubN.flat (lo := 1) (n := 12 + 1 - 1) (fun _ => rfl) (by decide) ?_) | refine SegN.mk _ (seg_rfl rfl) ?_ | refine DrawN.mk' [] ?_ | fail))); all_goals (conv => whnf)
    refine LoopN.rounds Tryd.E0 Tryd.mx 10 rfl ?_
    (repeat' ((conv => whnf); (first | (refine IfN.id ?_; first | refine IfN.not ?_ | refine IfN.tt rfl ?_ | refine IfN.ff rfl ?_ | fail) | (refine EqN.id ?_; first | (refine EqN.addN _ _ (by first | with_reducible rfl | with_reducible exact cst1 | with_reducible exact cst0 | with_reducible exact cst2 | with_reducible exact cst3 | with_reducible exact cst4 | with_reducible exact cst5 | with_reducible exact cst6 | with_reducible exact cst7 | with_reducible exact cst8 | with_reducible exact cst14 | with_reducible exact cst15 | with_reducible exact cst25 | with_reducible exact cst30 | with_reducible exact cst31 | fail) (by first | with_reducible rfl | with_reducible exact cst1 | with_reducible exact cst0 | with_reducible exact cst2 | with_reducible exact cst3 | with_reducible exact cst4 | with_reducible exact cst5 | with_reducible exact cst6 | with_reducible exact cst7 | with_reducible exact cst8 | with_reducible exact cst14 | with_reducible exact cst15 | with_reducible exact cst25 | with_reducible exact cst30 | with_reducible exact cst31 | fail) ?_ ?_; · (repeat' (first | omega | refine And.intro ?_ ?_ | exact bnd_andl (by omega) | exact bnd_andr (by omega) | refine bnd_or ?_ ?_ | refine bnd_or31 ?_ ?_ | refine bnd_xor ?_ ?_ | refine bnd_xor31 ?_ ?_ | refine bnd_shr ?_ | refine bnd_shl ?_ ?_ | refine bnd_mod ?_ | refine bnd_andl ?_ | fail))) | fail) | (refine SideN.mk ?_ ?_; · first | kernel_rfl | omega | exact List.cons_ne_nil _ _ | (simp; done) | (simp; omega) | exact trivial | assumption | fail) | (refine CallN.id ?_; first | refine CallN.det _ (letters_x _) ?_ | refine CallN.det _ (rf _) ?_ | refine CallN.det _ (hbr _) ?_ | refine CallN.det _ (e7 _ _ _) ?_ | refine CallN.det _ (e8 _ _ _) ?_ | refine CallN.det _ (atZ _) ?_ | refine CallN.det _ (VDet.wk (tz _) ⟨Wk.refl _, wk_sx _ _, trivial⟩) ?_ | fail) | refine OrN.l (SideN.mk ⟨Nat.le_of_ble_eq_true rfl, rfl, rfl, by dsimp only; omega, by simp only [maxLen]; omega⟩ ?_) | refine SegN.mk _ (seg_rfl rfl) ?_ | refine DrawN.mk' [] ?_ | fail))); all_goals (conv => whnf)
    exact EndN.det trivial (Wk.refl _)
end Go.Proofs.YtekhodpmpjehaaaDoor
