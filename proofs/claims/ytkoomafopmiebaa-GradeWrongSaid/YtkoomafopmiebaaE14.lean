/- A text of the proof: E14. -/
import Derived.Test.YtkoomafopmiebaaE13
set_option linter.unusedSimpArgs false
set_option linter.unusedVariables false
namespace Go.Vsi

def dstOk (N : Nat) : List Oper → Bool
  | [] => true
  | o :: l => match o.dst with
    | some d => match Nat.blt d N with
      | true => dstOk N l
      | false => false
    | none => dstOk N l
theorem dstOk_spec {N : Nat} : ∀ {l : List Oper}, dstOk N l = true → ∀ o ∈ l, ∀ d, o.dst = some d → d < N
  | [], _, o, ho => by cases ho
  | x :: l, h, o, ho => by
    intro d hd
    simp only [dstOk] at h
    cases hx : x.dst with
    | none =>
      simp only [hx] at h
      cases ho with
      | head => rw [hx] at hd; cases hd
      | tail _ hm => exact dstOk_spec h o hm d hd
    | some t =>
      simp only [hx] at h
      cases hb : Nat.blt t N with
      | false => simp [hb] at h
      | true =>
        simp only [hb] at h
        cases ho with
        | head =>
          have h1 : t + 1 ≤ N := by simpa [Nat.blt] using hb
          have h2 : t = d := by rw [hx] at hd; exact Option.some.inj hd
          rw [← h2]
          exact h1
        | tail _ hm => exact dstOk_spec h o hm d hd

structure DInv (N : Nat) (all : List Oper) (cl : List Nat) (ds : List DOp) (env0 : Env) (base : Heap) (k0 : Nat) (loc0 : Heap) (hs : Nat → Hp) (g0 : G) (w0 : World) (dfs : List Deferred) (s : Nat → Bool) (g : G) (w : World) (a : Act) : Prop where
  down : ∀ i j, i < ds.length → j < ds.length → bitOf cl i j = true → s j = true → s i = true
  size : a.tmps.size = N
  tm : ∀ t, VRel g w (lastv s t 0 ds (get env0 t)) (a.tmps.getD t undef)
  ext : Ext g0 w0 g w
  dfs : a.defers = dfs
  heap : ((∀ i d, ds[i]? = some d → d.k.wr → s i = false) ∧ HRel g w ⟨base, k0 + cntA ds, loc0 ++ masked s 0 ds⟩ ∧ (∀ i d B, ds[i]? = some d → d.k = .a B → s i = false → g.pend (base.length + k0 + cntA (ds.take i)))) ∨
    (∃ p d, ds[p]? = some d ∧ d.k.wr ∧ s p = true ∧ (∀ q dq, p < q → ds[q]? = some dq → dq.k.wr → s q = false) ∧ (∀ q dq, ds[q]? = some dq → dq.k ≠ .r → ¬ dq.k.wr → s q = true ∨ (dq.k = .m ∧ d.k = .w true)) ∧ HRel g w (hs (p + 1)))

section
variable {P : Program} {N : Nat}

theorem kcode_w {k : DK} : 3 ≤ kcode k ↔ k.wr := by
  cases k with
  | w tm => cases tm <;> simp [kcode, DK.wr]
  | _ => simp [kcode, DK.wr]
theorem kcode_m {k : DK} : kcode k = 1 ↔ k = .m := by
  cases k with
  | w tm => cases tm <;> simp [kcode]
  | _ => simp [kcode]
theorem kcode_t {k : DK} : kcode k = 4 ↔ k = .w true := by
  cases k with
  | w tm => cases tm <;> simp [kcode]
  | _ => simp [kcode]
theorem kcode_r {k : DK} : kcode k = 0 ↔ k = .r := by
  cases k with
  | w tm => cases tm <;> simp [kcode]
  | _ => simp [kcode]

theorem pair_w {all : List Oper} {cl : List Nat} {oi oj : Oper} {ki kj i j : Nat} (h : pairOk all cl oi oj ki kj i j = true) :
    (∀ t, oi.dst = some t → t ∈ names all oj → bitOf cl i j = true) ∧ (∀ t, oj.dst = some t → t ∈ names all oi → bitOf cl i j = true) ∧ (3 ≤ kj → ki = 0 ∨ bitOf cl i j = true ∨ (kj = 4 ∧ ki = 1)) ∧ (3 ≤ ki → kj = 0 ∨ 3 ≤ kj ∨ (ki = 4 ∧ kj = 1)) := by
  unfold pairOk at h
  simp only [Bool.and_eq_true] at h
  obtain ⟨⟨⟨h1, h2⟩, h3⟩, h4⟩ := h
  refine ⟨fun t ht hm => ?_, fun t ht hm => ?_, fun hk => ?_, fun hk => ?_⟩
  · rw [ht] at h1
    simpa [hm] using h1
  · rw [ht] at h2
    simpa [hm] using h2
  · rw [if_pos hk] at h3
    simpa [or_assoc] using h3
  · rw [if_pos hk] at h4
    simpa [or_assoc] using h4

theorem fop_tame {hp0 : Hp} {all : List Oper} {d : DOp} {e : Env} {hp hp' : Hp} (h : FOp P N hp0 all d e hp hp') (hk : d.k = .w true) : ∃ X : Heap, hp' = ⟨hp0.base, hp0.k + X.length, hp0.loc ++ X⟩ := by
  unfold FOp at h
  cases hg : gd all e d.o with
  | none => simp [hg] at h
  | some b =>
    cases b with
    | false => simp only [hg] at h; rw [hk] at h; cases h.1.1
    | true => simp only [hg] at h; rw [hk] at h; exact h.1 rfl

theorem draw_core {all : List Oper} {cl : List Nat} {ds : List DOp} {env0 : Env} {base : Heap} {k0 : Nat} {loc0 : Heap} {hs : Nat → Hp} {g0 : G} {w0 : World} {dfs : List Deferred} {Qc : Exit → Act → World → Prop} (hall : ds.map (·.o) = all) {kk : Nat → Nat} (hkk : ∀ i d, ds[i]? = some d → kk i = kcode d.k)
    (hck : Checked all cl kk) (hN : dstOk N all = true) (hk0 : loc0.length = k0) (hg0 : g0.n = base.length + k0) (h0 : hs 0 = ⟨base, k0, loc0⟩) (hf : ∀ i d, ds[i]? = some d → FOp P N ⟨base, k0, loc0⟩ all d (envAt i ds env0) (hs i) (hs (i + 1)))
    (hfin : ∀ g w a, HRel g w (hs ds.length) → ERel N g w (envAt ds.length ds env0) a → Ext g0 w0 g w → a.defers = dfs → Qc .normal a w) :
    ∀ (fuel : Nat) (listed : Array Bool) (a : Act) (w : World) (g : G), listed.size = ds.length → cntN (fun i => listed.getD i false) ds.length ≤ fuel →
      DInv N all cl ds env0 base k0 loc0 hs g0 w0 dfs (fun i => listed.getD i false) g w a → wpAny P .any all.toArray Qc fuel listed a w := by
  have hlen : all.length = ds.length := by rw [← hall]; simp
  have hget : ∀ (i : Nat) (o : Oper), all[i]? = some o → ∃ d, ds[i]? = some d ∧ d.o = o := by
    intro i o hi
    rw [← hall] at hi
    simpa using hi
  have hget' : ∀ (i : Nat) (d : DOp), ds[i]? = some d → all[i]? = some d.o := by
    intro i d hi
    rw [← hall]
    simp [hi]
  have pair : ∀ (i j : Nat) (di dj : DOp), i < j → ds[i]? = some di → ds[j]? = some dj → pairOk all cl di.o dj.o (kcode di.k) (kcode dj.k) i j = true := by
    intro i j di dj hij hi hj
    have := hck.pair i j di.o dj.o hij (hget' i di hi) (hget' j dj hj)
    rwa [hkk i di hi, hkk j dj hj] at this
  have hltd : ∀ {i : Nat} {d : DOp}, ds[i]? = some d → i < ds.length := fun hi => (List.getElem?_eq_some_iff.1 hi).1
  -- nothing is left
  have hdone : ∀ (s : Nat → Bool) g w a, (∀ i, i < ds.length → s i = true) → DInv N all cl ds env0 base k0 loc0 hs g0 w0 dfs s g w a → Qc .normal a w := by
    intro s g w a hs1 inv
    have hheap : HRel g w (hs ds.length) := by
      rcases inv.heap with ⟨hnw, hH, -⟩ | ⟨p, d, hp, hk, -, hafter, -, hH⟩
      · rw [hs_boxes h0 hf ds.length (Nat.le_refl _) fun q d hq _ hk => by have := hnw q d hq hk; rw [hs1 q (hltd hq)] at this; cases this]
        rw [List.take_length]
        have : masked s 0 ds = masked (fun _ => true) 0 ds := masked_all ds 0 fun j d B hj _ => by simpa using hs1 j (hltd hj)
        rwa [this] at hH
      · rw [hs_calm hf (p + 1) ds.length (by have := hltd hp; omega) (Nat.le_refl _) fun q dq hq h1 h2 => ?_]
        · exact hH
        · have hpr := pair p q d dq (by omega) hp hq
          rcases (pair_w hpr).2.2.2 (kcode_w.2 hk) with h3 | h3
          · exact .inl (kcode_r.1 h3)
          · rcases h3 with h3 | h3
            · exfalso
              have := hafter q dq (by omega) hq (kcode_w.1 h3)
              rw [hs1 q h2] at this; cases this
            · exact .inr (kcode_m.1 h3.2)
    refine hfin g w a hheap ⟨inv.size, fun t => ?_⟩ inv.ext inv.dfs
    rw [envAt_get t ds.length 0 ds env0]
    rw [← lastv_congr (s := s) ds 0 _ fun j d hj _ => by
      have hl := hltd hj
      simp only [Nat.zero_add]
      rw [hs1 j hl]
      simp [hl]]
    exact inv.tm t
  -- nothing may come up: nothing is left
  have hempty : ∀ (listed : Array Bool), listed.size = ds.length → Region.ready .any all.toArray listed = [] → ∀ i, i < ds.length → listed.getD i false = true := by
    intro listed hsz hr i
    induction i using Nat.strongRecOn with
    | _ i ih =>
      intro hi
      cases hl : listed.getD i false with
      | true => rfl
      | false =>
        exfalso
        have hmem : i ∈ Region.ready .any all.toArray listed := by
          rw [mem_ready']
          have hi' : i < all.length := by omega
          refine ⟨by simpa using hi', ?_, all[i], by simp [hi'], fun e he hb => ?_⟩
          · have hls : i < listed.size := by omega
            simpa [hls] using hl
          · have hlt := hck.back i all[i] (List.getElem?_eq_getElem hi') e he hb
            exact ih e.on hlt (by omega)
        rw [hr] at hmem
        cases hmem
  -- one operation that may come up
  have hstep : ∀ (listed : Array Bool) (a : Act) (w : World) (g : G) (K : Act → World → Prop), listed.size = ds.length → DInv N all cl ds env0 base k0 loc0 hs g0 w0 dfs (fun i => listed.getD i false) g w a →
      ∀ i, i ∈ Region.ready .any all.toArray listed → i < ds.length ∧ listed.getD i false = false ∧ ((∀ a' w' g', DInv N all cl ds env0 base k0 loc0 hs g0 w0 dfs (fun j => (listed.setIfInBounds i true).getD j false) g' w' a' → K a' w') → wpOp P all.toArray Qc i K a w) := by
    intro listed a w g K hsz inv i hi
    rw [mem_ready'] at hi
    obtain ⟨hi1, hi2, o, hi3, hi4⟩ := hi
    have hil : i < ds.length := by simp at hi1; omega
    have hsi : listed.getD i false = false := by
      have hls : i < listed.size := by omega
      simpa [hls] using hi2
    refine ⟨hil, hsi, fun hK => ?_⟩
    obtain ⟨d, hd, hdo⟩ := hget i o (by simpa using hi3)
    subst hdo
    -- the list with i
    have hs'i : (listed.setIfInBounds i true).getD i false = true := by
      have hls : i < listed.size := by omega
      simp [hls]
    have hs'ne : ∀ j, j ≠ i → (listed.setIfInBounds i true).getD j false = listed.getD j false := by
      intro j hj
      simp [Array.getElem?_setIfInBounds_ne (Ne.symm hj)]
    generalize hsdef : (fun j => listed.getD j false) = s at inv
    generalize hs'def : (fun j => (listed.setIfInBounds i true).getD j false) = s' at hK
    have e0 : s i = false := by rw [← hsdef]; exact hsi
    have e1 : s' i = true := by rw [← hs'def]; exact hs'i
    have ene : ∀ j, j ≠ i → s' j = s j := fun j hj => by rw [← hs'def, ← hsdef]; exact hs'ne j hj
    -- all that must be ahead of it is
    have hpre : ∀ j, j < ds.length → bitOf cl j i = true → s j = true := by
      intro j hj hb
      obtain ⟨e, he, hb1, hb2⟩ := hck.clo j i d.o (by omega) (hget' i d hd) hb
      have hse : s e.on = true := by rw [← hsdef]; exact hi4 e he hb1
      rcases hb2 with rfl | hb2
      · exact hse
      · have := hck.back i d.o (hget' i d hd) e he hb1
        exact inv.down j e.on hj (by omega) hb2 hse
    have hdown' : ∀ p q, p < ds.length → q < ds.length → bitOf cl p q = true → s' q = true → s' p = true := by
      intro p q hp hq hb hsq
      by_cases hpi : p = i
      · rw [hpi]; exact e1
      · rw [ene p hpi]
        by_cases hqi : q = i
        · subst hqi; exact hpre p hp hb
        · rw [ene q hqi] at hsq
          exact inv.down p q hp hq hb hsq
    -- what it looks at is what the text's walk shows
    have hlook : ∀ t, t ∈ looks all d.o → lastv s t 0 ds (get env0 t) = get (envAt i ds env0) t := by
      intro t ht
      rw [envAt_get t i 0 ds env0]
      refine lastv_congr ds 0 _ fun j dj hj hjd => ?_
      simp only [Nat.zero_add]
      rcases Nat.lt_trichotomy j i with h | h | h
      · have := (pair_w (pair j i dj d h hj hd)).1 t hjd (by unfold names; simp [ht])
        rw [hpre j (by omega) this]
        simp [h]
      · subst h; rw [e0]; simp
      · have := (pair_w (pair i j d dj h hd hj)).2.1 t hjd (by unfold names; simp [ht])
        cases hsj : s j with
        | false => simp; omega
        | true =>
          have := inv.down i j hil (hltd hj) this hsj
          rw [e0] at this; cases this
    have hE : ERel N g w (restr (looks all d.o) (envAt i ds env0)) a := by
      refine ⟨inv.size, fun t => ?_⟩
      rw [get_restr]
      by_cases ht : t ∈ looks all d.o
      · rw [if_pos ht, ← hlook t ht]
        exact inv.tm t
      · rw [if_neg ht]; simp [VRel]
    have hagree := agree_restr (looks all d.o) (envAt i ds env0)
    have hgd : gd all (restr (looks all d.o) (envAt i ds env0)) d.o = gd all (envAt i ds env0) d.o := by
      unfold gd
      cases hgu : d.o.guard with
      | none => rfl
      | some jw =>
        obtain ⟨j, want⟩ := jw
        simp only
        cases hj : lget all j with
        | none => rfl
        | some oj =>
          simp only
          cases hdj : oj.dst with
          | none => rfl
          | some t =>
            simp only
            rw [hagree t (by unfold looks; simp [hgu, hj, hdj])]
    -- the slots behind it
    have htm' : ∀ (g' : G) (w' : World) (c : Value), (∀ v c, VRel g w v c → VRel g' w' v c) → (∀ u, d.o.dst = some u → VRel g' w' d.v c) → ∀ t, VRel g' w' (lastv s' t 0 ds (get env0 t)) ((a.put d.o.dst c).tmps.getD t undef) := by
      intro g' w' c hmono hv t
      by_cases ht : d.o.dst = some t
      · rw [lastv_at ds 0 i d _ hd ht (by simpa using e1) fun j dj hj hjd hlt => ?_]
        · have htN := dstOk_spec hN d.o (List.mem_of_getElem? (hget' i d hd)) t ht
          have : (a.put d.o.dst c).tmps.getD t undef = c := by
            rw [ht]
            have : t < a.tmps.size := by rw [inv.size]; exact htN
            simp [Act.put, this]
          rw [this]; exact hv t ht
        · simp only [Nat.zero_add]
          rw [ene j (by omega)]
          cases hsj : s j with
          | false => rfl
          | true =>
            have := (pair_w (pair i j d dj hlt hd hj)).1 t ht (by unfold names; simp [hjd])
            have := inv.down i j hil (hltd hj) this hsj
            rw [e0] at this; cases this
      · rw [lastv_congr (s' := s) ds 0 _ fun j dj hj hjd => by
          simp only [Nat.zero_add]
          refine ene j fun e => ?_
          subst e
          rw [hd] at hj
          cases hj
          exact ht hjd]
        have : (a.put d.o.dst c).tmps.getD t undef = a.tmps.getD t undef := by
          cases hdd : d.o.dst with
          | none => simp [Act.put]
          | some u =>
            have hut : u ≠ t := fun e => ht (by rw [hdd, e])
            simp [Act.put, Array.getElem?_setIfInBounds_ne hut]
        rw [this]
        exact hmono _ _ (inv.tm t)
    have hsize' : ∀ c, (a.put d.o.dst c).tmps.size = N := by
      intro c
      cases d.o.dst <;> simp [Act.put, inv.size]
    have hdfs' : ∀ c, (a.put d.o.dst c).defers = dfs := by
      intro c
      rw [← inv.dfs]
      cases d.o.dst <;> rfl
    have hmask : (d.k = .r ∨ d.k = .m) → masked s' 0 ds = masked s 0 ds := fun hk => masked_congr ds 0 fun j dj B hj hjk => by
      simp only [Nat.zero_add]
      refine ene j fun e => ?_
      subst e
      rw [hd] at hj
      cases hj
      rcases hk with hk | hk <;> rw [hk] at hjk <;> cases hjk
    have hph1 : (d.k = .r ∨ d.k = .m) → ∀ (g' : G) (w' : World), Ext g w g' w' →
        ((∀ i d, ds[i]? = some d → d.k.wr → s i = false) ∧ HRel g w ⟨base, k0 + cntA ds, loc0 ++ masked s 0 ds⟩ ∧ (∀ i d B, ds[i]? = some d → d.k = .a B → s i = false → g.pend (base.length + k0 + cntA (ds.take i)))) →
        HRel g' w' ⟨base, k0 + cntA ds, loc0 ++ masked s 0 ds⟩ →
        ((∀ i d, ds[i]? = some d → d.k.wr → s' i = false) ∧ HRel g' w' ⟨base, k0 + cntA ds, loc0 ++ masked s' 0 ds⟩ ∧ (∀ i d B, ds[i]? = some d → d.k = .a B → s' i = false → g'.pend (base.length + k0 + cntA (ds.take i)))) := by
      rintro hk g' w' hx ⟨hnw, hH, hpe⟩ hH'
      refine ⟨fun j dj hj hjk => ?_, by rw [hmask hk]; exact hH', fun j dj B hj hjk hsj => ?_⟩
      · by_cases hji : j = i
        · subst hji; rw [hd] at hj; cases hj; obtain ⟨tm, hjk⟩ := hjk; rcases hk with hk | hk <;> rw [hk] at hjk <;> cases hjk
        · rw [ene j hji]; exact hnw j dj hj hjk
      · have hq : g.pend (base.length + k0 + cntA (ds.take j)) := by
          refine hpe j dj B hj hjk ?_
          by_cases hji : j = i
          · subst hji; rw [e1] at hsj; cases hsj
          · rw [ene j hji] at hsj; exact hsj
        refine hx.pend _ ?_ hq
        rw [← Hp.all_length hH]
        exact (List.getElem?_eq_some_iff.1 (hH.pend _ hq)).1
    have hph2 : (d.k = .r ∨ d.k = .m) → ∀ (g' : G) (w' : World) (p : Nat) (dp : DOp), ds[p]? = some dp → dp.k.wr → s p = true → (∀ q dq, p < q → ds[q]? = some dq → dq.k.wr → s q = false) → (∀ q dq, ds[q]? = some dq → dq.k ≠ .r → ¬ dq.k.wr → s q = true ∨ (dq.k = .m ∧ dp.k = .w true)) → HRel g' w' (hs (p + 1)) →
        (∃ p d, ds[p]? = some d ∧ d.k.wr ∧ s' p = true ∧ (∀ q dq, p < q → ds[q]? = some dq → dq.k.wr → s' q = false) ∧ (∀ q dq, ds[q]? = some dq → dq.k ≠ .r → ¬ dq.k.wr → s' q = true ∨ (dq.k = .m ∧ d.k = .w true)) ∧ HRel g' w' (hs (p + 1))) := by
      intro hk g' w' p dp hp hkp hsp hafter hbefore hH
      refine ⟨p, dp, hp, hkp, ?_, fun q dq hpq hq hkq => ?_, fun q dq hq h1 h2 => ?_, hH⟩
      · by_cases hpi : p = i
        · rw [hpi]; exact e1
        · rw [ene p hpi]; exact hsp
      · by_cases hqi : q = i
        · subst hqi; rw [hd] at hq; cases hq; obtain ⟨tm, hkq⟩ := hkq; rcases hk with hk | hk <;> rw [hk] at hkq <;> cases hkq
        · rw [ene q hqi]; exact hafter q dq hpq hq hkq
      · by_cases hqi : q = i
        · rw [hqi]; exact .inl e1
        · rw [ene q hqi]; exact hbefore q dq hq h1 h2
    have hF := hf i d hd
    unfold wpOp
    rw [hi3]
    simp only
    unfold FOp at hF
    cases hgv : gd all (envAt i ds env0) d.o with
    | none => simp [hgv] at hF
    | some b =>
    have hwant := gd_wanted hE (hgd.trans hgv)
    cases b with
    | false =>
      rw [hwant]
      simp only [hgv] at hF
      obtain ⟨⟨hk, hv⟩, -⟩ := hF
      simp only [Bool.false_eq_true, if_false]
      refine hK _ w g ⟨hdown', hsize' _, htm' g w undef (fun _ _ h => h) (fun _ _ => by rw [hv]; simp only [VRel]; exact ⟨#[], rfl, by simp [LRel]⟩), inv.ext, hdfs' _, ?_⟩
      rcases inv.heap with hp1 | hp2
      · exact .inl (hph1 (.inl hk) g w (Ext.refl g w) hp1 hp1.2.1)
      · obtain ⟨p, dp, hp, hkp, hsp, hafter, hbefore, hH⟩ := hp2
        exact .inr (hph2 (.inl hk) g w p dp hp hkp hsp hafter hbefore hH)
    | true =>
      rw [hwant]
      simp only [if_true]
      refine .inl ?_
      simp only [hgv] at hF
      have hquiet : (d.k = .r ∨ d.k = .m) → (∀ hp, HRel g w hp → ((∃ X : Heap, hp = ⟨base, k0 + X.length, loc0 ++ X⟩) ∨ d.k = .r) → XOk P N hp (restr (looks all d.o) (envAt i ds env0)) d.o d.v) → d.o.wp P a w K Qc := by
        intro hk hX
        rcases inv.heap with hp1 | hp2
        · have hH := hp1.2.1
          refine hX _ hH (.inl ⟨masked s 0 ds, by rw [masked_length]⟩) g w a hH hE K Qc fun g' w' c hH' hv hx => ?_
          exact hK _ w' g' ⟨hdown', hsize' _, htm' g' w' c (fun v c => VRel.ext hx v c) (fun _ _ => hv), inv.ext.trans hx, hdfs' _, .inl (hph1 hk g' w' hx hp1 hH')⟩
        · obtain ⟨p, dp, hp, hkp, hsp, hafter, hbefore, hH⟩ := hp2
          have hkr : (∃ X : Heap, hs (p + 1) = ⟨base, k0 + X.length, loc0 ++ X⟩) ∨ d.k = .r := by
            rcases hk with hk | hk
            · exact .inr hk
            · rcases hbefore i d hd (by rw [hk]; simp) (by rw [hk]; rintro ⟨tm, h⟩; cases h) with this | ⟨-, hpt⟩
              · rw [e0] at this; cases this
              · exact .inl (fop_tame (hf p dp hp) hpt)
          refine hX _ hH hkr g w a hH hE K Qc fun g' w' c hH' hv hx => ?_
          exact hK _ w' g' ⟨hdown', hsize' _, htm' g' w' c (fun v c => VRel.ext hx v c) (fun _ _ => hv), inv.ext.trans hx, hdfs' _, .inr (hph2 hk g' w' p dp hp hkp hsp hafter hbefore hH')⟩
      cases hk : d.k with
      | r =>
        rw [hk] at hF
        exact hquiet (.inl hk) fun hp _ _ => hF.1 _ hagree hp
      | m =>
        rw [hk] at hF
        refine hquiet (.inr hk) fun hp _ hq => ?_
        rcases hq with ⟨X, rfl⟩ | hq
        · exact hF.1 _ hagree X
        · rw [hk] at hq; cases hq
      | a B =>
        rw [hk] at hF
        obtain ⟨hdst, hdv, hA, -⟩ := hF
        rcases inv.heap with ⟨hnw, hH, hpe⟩ | ⟨p, dp, hp, hkp, hsp, hafter, hbefore, hH⟩
        rotate_left
        · exfalso
          rcases hbefore i d hd (by rw [hk]; simp) (by rw [hk]; rintro ⟨tm, h⟩; cases h) with this | ⟨this, -⟩
          · rw [e0] at this; cases this
          · rw [hk] at this; cases this
        obtain ⟨t, l, cs, rfl, hlr, hrun⟩ := hA _ hagree g w a hE
        have hnoW : ∀ q dq, ds[q]? = some dq → q < i → ¬ dq.k.wr := by
          intro q dq hq hlt hkq
          have := (pair_w (pair q i dq d hlt hq hd)).2.2.2 (kcode_w.2 hkq)
          rw [hk] at this
          simp [kcode] at this
        have hsi' := hs_boxes h0 hf i (by omega) hnoW
        obtain ⟨hm1, hm2⟩ := masked_at (s := s) (s' := s') ds 0 i d _ hd hk (by simpa using e0) (by simpa using e1) (fun j hj => ene j (by omega))
        have hidx : cntA (ds.take i) < (masked s 0 ds).length := (List.getElem?_eq_some_iff.1 hm1).1
        have hpi := hpe i d _ hd hk e0
        have hat : At ⟨base, k0 + cntA ds, loc0 ++ masked s 0 ds⟩ (base.length + k0 + cntA (ds.take i)) .dead := by
          unfold At Hp.all
          simp only
          rw [← List.append_assoc, List.getElem?_append_right (by simp; omega)]
          simp only [List.length_append, hk0]
          rw [show base.length + k0 + cntA (ds.take i) - (base.length + k0) = cntA (ds.take i) by omega]
          exact hm1
        have hput : Put ⟨base, k0 + cntA ds, loc0 ++ masked s 0 ds⟩ (base.length + k0 + cntA (ds.take i)) (.box t l) ⟨base, k0 + cntA ds, loc0 ++ masked s' 0 ds⟩ := by
          refine ⟨?_, rfl, rfl, by simp [masked_length]⟩
          simp only [Hp.all]
          rw [hm2, ← List.append_assoc, ← List.append_assoc, List.set_append_right _ _ (by simp; omega)]
          simp only [List.length_append, hk0]
          rw [show base.length + k0 + cntA (ds.take i) - (base.length + k0) = cntA (ds.take i) by omega]
        obtain ⟨g', hH', hv', hn', hok', hblk', hpend', hown'⟩ := hH.revive hat hpi (t := t) hlr hput
        unfold Oper.wp
        rw [hrun, Oper.upon_value]
        have hx : Ext g0 w0 g' (w.alloc (.cells cs t)) := by
          have ie := inv.ext
          have hold : ∀ b, b < w.heap.size → (w.alloc (.cells cs t)).heap[b]? = w.heap[b]? := fun b hb => heap_alloc_old w _ hb
          refine ⟨by rw [hn']; exact ie.n, fun j hj hq => (hpend' j (by omega)).2 (ie.pend j hj hq), fun j hj => hv'.ok j (ie.ok j hj), fun j hj => (hv'.blk j (ie.ok j hj)).trans (ie.blk j hj), fun j hj => ?_, fun b o hb ho => ie.own b o hb (hown' b o (Nat.lt_of_lt_of_le hb ie.size) ho),
            ie.os, ie.tape, ie.output, by have := ie.size; simp; omega, fun b hb ho => by rw [hold b (Nat.lt_of_lt_of_le hb ie.size)]; exact ie.same b hb ho, fun b ds' u fz hb => ?_⟩
          · rcases ie.tk j hj with h1 | h1 <;> rcases hv'.tk j (ie.ok j hj) with h2 | h2
            · exact .inl (h2.trans h1)
            · exact .inr (h1 ▸ h2)
            · exact .inr (h2 ▸ h1)
            · exact .inr (Nat.lt_trans h1 h2)
          · obtain ⟨cs', q1, q2, q3⟩ := ie.cells b ds' u fz hb
            exact ⟨cs', by rw [hold b (lt_size q1), q1], q2, q3⟩
        refine hK _ _ g' ⟨hdown', hsize' _, htm' g' _ _ (fun v c => VRel.extV hv' v c) (fun _ _ => ?_), hx, hdfs' _, .inl ⟨fun j dj hj hjk => ?_, hH', fun j dj B' hj hjk hsj => ?_⟩⟩
        · rw [hdv, hsi']
          simp only [VRel]
          rw [show base.length + (k0 + cntA (ds.take i)) = base.length + k0 + cntA (ds.take i) by omega]
          exact ⟨hok', by rw [hblk']⟩
        · by_cases hji : j = i
          · subst hji; rw [hd] at hj; cases hj; obtain ⟨tm, hjk⟩ := hjk; rw [hk] at hjk; cases hjk
          · rw [ene j hji]; exact hnw j dj hj hjk
        · have hji : j ≠ i := fun e => by rw [e, e1] at hsj; cases hsj
          have hq : g.pend (base.length + k0 + cntA (ds.take j)) := hpe j dj B' hj hjk (by rw [← ene j hji]; exact hsj)
          refine (hpend' _ fun e => ?_).2 hq
          have hlt2 : ∀ (p q : Nat) (dp : DOp) (Bp : Blk), p < q → q ≤ ds.length → ds[p]? = some dp → dp.k = .a Bp → cntA (ds.take p) < cntA (ds.take q) := by
            intro p q dp Bp hpq hq hp hkp
            have h1 : cntA ((ds.take q).take (p + 1)) ≤ cntA (ds.take q) := take_cntA_le _ _
            rw [List.take_take, Nat.min_eq_left (by omega), take_snoc hp, cntA_append] at h1
            simp only [cntA, hkp] at h1
            omega
          rcases Nat.lt_or_gt_of_ne hji with h1 | h1
          · have := hlt2 j i dj B' h1 (by omega) hj hjk
            omega
          · have := hlt2 i j d _ h1 (by have := hltd hj; omega) hd hk
            omega
      | w tm =>
        rw [hk] at hF
        obtain ⟨-, hW⟩ := hF
        have hwr : d.k.wr := ⟨tm, hk⟩
        have hnoA : ∀ q dq B', ds[q]? = some dq → i ≤ q → dq.k ≠ .a B' := by
          intro q dq B' hq hle hkq
          by_cases hqi : q = i
          · subst hqi; rw [hd] at hq; cases hq; rw [hk] at hkq; cases hkq
          · have := (pair_w (pair i q d dq (by omega) hd hq)).2.2.2 (kcode_w.2 hwr)
            rw [hkq] at this
            simp [kcode] at this
        have hbef : ∀ q dq, ds[q]? = some dq → q < i → dq.k ≠ .r → s q = true ∨ (dq.k = .m ∧ d.k = .w true) := by
          intro q dq hq hlt hne
          rcases (pair_w (pair q i dq d hlt hq hd)).2.2.1 (kcode_w.2 hwr) with h1 | h1 | h1
          · exact absurd (kcode_r.1 h1) hne
          · exact .inl (hpre q (hltd hq) h1)
          · exact .inr ⟨kcode_m.1 h1.2, kcode_t.1 h1.1⟩
        have hbefw : ∀ q dq, ds[q]? = some dq → q < i → dq.k ≠ .r → dq.k ≠ .m → s q = true := by
          intro q dq hq hlt hne hnm
          rcases hbef q dq hq hlt hne with h1 | ⟨h1, -⟩
          · exact h1
          · exact absurd h1 hnm
        have wr_ne : ∀ k : DK, k.wr → k ≠ .r ∧ k ≠ .m := by
          rintro k ⟨tm, rfl⟩
          exact ⟨by simp, by simp⟩
        have hHi : HRel g w (hs i) := by
          rcases inv.heap with ⟨hnw, hH, hpe⟩ | ⟨p, dp, hp, hkp, hsp, hafter, hbefore, hH⟩
          · have hnoW : ∀ q dq, ds[q]? = some dq → q < i → ¬ dq.k.wr := by
              intro q dq hq hlt hkq
              have h1 := hbefw q dq hq hlt (wr_ne _ hkq).1 (wr_ne _ hkq).2
              rw [hnw q dq hq hkq] at h1; cases h1
            rw [hs_boxes h0 hf i (by omega) hnoW]
            obtain ⟨f1, f2⟩ := masked_take (s := fun _ => true) ds 0 i hnoA
            rw [f1, f2]
            have : masked s 0 ds = masked (fun _ => true) 0 ds := masked_all ds 0 fun q dq B' hq hkq => by
              simp only [Nat.zero_add]
              have hqi : q < i := by
                rcases Nat.lt_or_ge q i with h1 | h1
                · exact h1
                · exact absurd hkq (hnoA q dq B' hq h1)
              exact hbefw q dq hq hqi (by rw [hkq]; simp) (by rw [hkq]; simp)
            rwa [this] at hH
          · have hpi : p ≠ i := fun e => by rw [e, e0] at hsp; cases hsp
            have hlt : p < i := by
              rcases Nat.lt_or_gt_of_ne hpi with h1 | h1
              · exact h1
              · exfalso
                rcases (pair_w (pair i p d dp h1 hd hp)).2.2.1 (kcode_w.2 hkp) with h2 | h2 | h2
                · exact (wr_ne _ hwr).1 (kcode_r.1 h2)
                · have := inv.down i p hil (hltd hp) h2 hsp
                  rw [e0] at this; cases this
                · exact (wr_ne _ hwr).2 (kcode_m.1 h2.2)
            rw [hs_calm hf (p + 1) i (by omega) (by omega) fun q dq hq h1 h2 => ?_]
            · exact hH
            · rcases (pair_w (pair p q dp dq (by omega) hp hq)).2.2.2 (kcode_w.2 hkp) with h3 | h3 | h3
              · exact .inl (kcode_r.1 h3)
              · exfalso
                have hkq := kcode_w.1 h3
                have h4 := hbefw q dq hq h2 (wr_ne _ hkq).1 (wr_ne _ hkq).2
                rw [hafter q dq (by omega) hq hkq] at h4; cases h4
              · exact .inr (kcode_m.1 h3.2)
        refine hW _ hagree g w a hHi hE K Qc fun g' w' c hH' hv hx => ?_
        refine hK _ w' g' ⟨hdown', hsize' _, htm' g' w' c (fun v c => VRel.ext hx v c) (fun u hu => hv), inv.ext.trans hx, hdfs' _, .inr ⟨i, d, hd, hwr, e1, fun q dq hlt hq hkq => ?_, fun q dq hq h1 h2 => ?_, hH'⟩⟩
        · rw [ene q (by omega)]
          cases hsq : s q with
          | false => rfl
          | true =>
            exfalso
            rcases (pair_w (pair i q d dq hlt hd hq)).2.2.1 (kcode_w.2 hkq) with h3 | h3 | h3
            · exact (wr_ne _ hwr).1 (kcode_r.1 h3)
            · have := inv.down i q hil (hltd hq) h3 hsq
              rw [e0] at this; cases this
            · exact (wr_ne _ hwr).2 (kcode_m.1 h3.2)
        · by_cases hqi : q = i
          · rw [hqi]; exact .inl e1
          · rw [ene q hqi]
            rcases Nat.lt_or_ge q i with h3 | h3
            · exact hbef q dq hq h3 h1
            · rcases (pair_w (pair i q d dq (by omega) hd hq)).2.2.2 (kcode_w.2 hwr) with h4 | h4 | h4
              · exact absurd (kcode_r.1 h4) h1
              · exact absurd (kcode_w.1 h4) h2
              · exact .inr ⟨kcode_m.1 h4.2, kcode_t.1 h4.1⟩
  intro fuel
  induction fuel with
  | zero =>
    intro listed a w g hsz hc inv
    have hz := cntN_zero (s := fun i => listed.getD i false) ds.length (by omega)
    refine ⟨?_, hdone _ g w a hz inv⟩
    rw [List.eq_nil_iff_forall_not_mem]
    intro i hi
    obtain ⟨h1, h2, -⟩ := hstep listed a w g (fun _ _ => True) hsz inv i hi
    have := hz i h1
    rw [h2] at this; cases this
  | succ fuel ih =>
    intro listed a w g hsz hc inv
    refine ⟨fun hr => hdone _ g w a (hempty listed hsz hr) inv, fun i hi => ?_⟩
    obtain ⟨h1, h2, h3⟩ := hstep listed a w g (wpAny P .any all.toArray Qc fuel (listed.setIfInBounds i true)) hsz inv i hi
    refine h3 fun a' w' g' inv' => ih _ a' w' g' (by simpa using hsz) ?_ inv'
    have hls : i < listed.size := by omega
    have := cntN_less (s := fun j => listed.getD j false) (s' := fun j => (listed.setIfInBounds i true).getD j false) (i := i) h2 (by simp [hls]) (fun j hj => by simp [Array.getElem?_setIfInBounds_ne (Ne.symm hj)]) ds.length h1
    omega
end
end Go.Vsi
