/- A text of the proof: the parts A38, B38, C38, D38, E38, F38, G38, H38, I38, J38, K38, L38, M38, Y38, N38. -/
import Derived.Laws.BitsAllLaws
import Derived.Sort.Grow
import Derived.Deep.Draws
import Derived.Shelf.SlSortCmp.WholeK
import Derived.Shelf.SlSortCmp.NoneTotal
import Derived.Test.YtgopbbkpcjgihaaK7
set_option linter.unusedSimpArgs false
set_option linter.unusedVariables false
/-! text A38 -/
namespace Go.Proofs.Ytgopbbkpcjgihaa
open Go.Vsi
attribute [local irreducible] VW VCall VO

def btw (n l h : Int) : Bool := decide (l ≤ n) && decide (n ≤ h)
theorem btw_true {n l h : Int} (H : btw n l h = true) : l ≤ n ∧ n ≤ h := by simpa [btw] using H
theorem btw_false {n l h : Int} (H : btw n l h = false) : n < l ∨ h < n := by
  simp [btw] at H
  omega
theorem between_c (n l h : Int) (H : Heap) : VDet Try.prog 64 [.int .i64 n, .int .i64 l, .int .i64 h] H (.bool (btw n l h)) := by
  refine fn_det Try.E0 Try.mx Try.func64 (by kernel_rfl) rfl (Nat.le_of_ble_eq_true rfl) rfl fun hcl hbl => ?_
  (repeat' ((conv => whnf); (first | (refine IfN.id ?_; first | refine IfN.dec (fun _ => ?_) (fun _ => ?_) | fail) | refine DrawN.mk' [] ?_ | fail))); all_goals (conv => whnf)
  all_goals refine EndN.det trivial (Wk.of_eq (congrArg AV.bool ?_))
  all_goals simp [btw]
  all_goals omega

structure Sch where
  pts : Int
  part : Int
  att : Int
  rty : Int
  hnt : Int
  cnt : Int
  lates : List (Int × Int)
def encP (p : Int × Int) : List AV := [.int .i64 p.1, .int .i64 p.2]
theorem encP_below (n : Nat) (l : List (Int × Int)) : belowL n (l.flatMap encP) := belowL_flat _ fun x => by simp [encP, belowL, below]
def Sch.cells (s : Sch) : List AV := [.int .i64 s.pts, .int .i64 s.part, .sl none s.lates.length (s.lates.flatMap encP), .int .i64 s.att, .int .i64 s.rty, .int .i64 s.hnt, .int .u8 s.cnt]
def okAt (l : List (Int × Int)) (i : Nat) : Bool :=
  btw (l.getD i (0, 0)).1 0 1000 && (btw (l.getD i (0, 0)).2 0 100 && (i == 0 || !(decide ((l.getD i (0, 0)).1 ≤ (l.getD (i - 1) (0, 0)).1) || decide ((l.getD i (0, 0)).2 < (l.getD (i - 1) (0, 0)).2))))
def rowsOK (l : List (Int × Int)) : Bool := (List.range l.length).all (okAt l)
theorem rows_no {l : List (Int × Int)} {k : Nat} (hk : k < l.length) (h : okAt l k = false) : rowsOK l = false := by
  unfold rowsOK
  rw [List.all_eq_false]
  exact ⟨k, List.mem_range.2 hk, by simp [h]⟩
theorem rows_yes {l : List (Int × Int)} (h : ∀ i, i < l.length → okAt l i = true) : rowsOK l = true := by
  unfold rowsOK
  rw [List.all_eq_true]
  exact fun x hx => h x (List.mem_range.1 hx)
def validB (s : Sch) : Bool :=
  btw s.pts 0 10000 && (btw s.att 0 100 && (btw s.part 0 100 && (btw s.rty 0 100 && (btw s.hnt 0 100 && (!decide (s.cnt < 1) && (!decide (3 < s.cnt) && (!decide ((8 : Int) < s.lates.length) && rowsOK s.lates)))))))

theorem valid_c (s : Sch) (H : Heap) : VDet Try.prog 37 [.agg s.cells] H (.bool (validB s)) := by
  obtain ⟨pts, part, att, rty, hnt, cnt, lates⟩ := s
  unfold Sch.cells
  simp only
  refine fn_det Try.E0 Try.mx Try.func37 (by kernel_rfl) rfl (Nat.le_of_ble_eq_true rfl) rfl fun hcl hbl => ?_
  (repeat' ((conv => whnf); (first | (refine IfN.id ?_; first | refine IfN.not ?_ | refine IfN.dec (fun _ => ?_) (fun _ => ?_) | (refine IfN.mk ?_ ?_ <;> intro _) | fail) | (refine CallN.id ?_; first | refine CallN.det _ (between_c _ _ _ _) ?_ | fail) | refine DrawN.mk' [] ?_ | fail))); all_goals (conv => whnf)
  all_goals try (refine EndN.det trivial (Wk.of_eq (congrArg AV.bool ?_)); simp_all [validB]; done)
  refine loop_R Try.E0 Try.mx (σ := Nat) (fun k => k ≤ lates.length ∧ ∀ i, i < k → okAt lates i = true) (fun k => lates.length - k) (fun k => [(48, .v (.int .i64 k))]) (fun _ => _) _ 0 rfl hcl [1, 46, 47] rfl ⟨Nat.zero_le _, fun i hi => absurd hi (Nat.not_lt_zero i)⟩ ⟨⟨_, rfl, Wk.refl _⟩, trivial⟩ rfl (fun _ _ => rfl) ?_
  rintro k ⟨hk, hok⟩
  (repeat' ((conv => whnf); (first | (refine IfN.id ?_; first | refine IfN.not ?_ | refine IfN.dec (fun _ => ?_) (fun _ => ?_) | (refine IfN.mk ?_ ?_ <;> intro _) | fail) | (refine EqN.id ?_; first | (refine EqN.addN _ _ (by first | with_reducible rfl | with_reducible exact cst1 | with_reducible exact cst0 | with_reducible exact cst2 | with_reducible exact cst3 | with_reducible exact cst4 | with_reducible exact cst5 | with_reducible exact cst6 | with_reducible exact cst7 | with_reducible exact cst8 | with_reducible exact cst14 | with_reducible exact cst15 | with_reducible exact cst25 | with_reducible exact cst30 | with_reducible exact cst31 | fail) (by first | with_reducible rfl | with_reducible exact cst1 | with_reducible exact cst0 | with_reducible exact cst2 | with_reducible exact cst3 | with_reducible exact cst4 | with_reducible exact cst5 | with_reducible exact cst6 | with_reducible exact cst7 | with_reducible exact cst8 | with_reducible exact cst14 | with_reducible exact cst15 | with_reducible exact cst25 | with_reducible exact cst30 | with_reducible exact cst31 | fail) ?_ ?_; · (repeat' (first | omega | refine And.intro ?_ ?_ | exact bnd_andl (by omega) | exact bnd_andr (by omega) | refine bnd_or ?_ ?_ | refine bnd_or31 ?_ ?_ | refine bnd_xor ?_ ?_ | refine bnd_xor31 ?_ ?_ | refine bnd_shr ?_ | refine bnd_shl ?_ ?_ | refine bnd_mod ?_ | refine bnd_andl ?_ | fail))) | (refine EqN.subN _ _ (by first | with_reducible rfl | with_reducible exact cst1 | with_reducible exact cst0 | with_reducible exact cst2 | with_reducible exact cst3 | with_reducible exact cst4 | with_reducible exact cst5 | with_reducible exact cst6 | with_reducible exact cst7 | with_reducible exact cst8 | with_reducible exact cst14 | with_reducible exact cst15 | with_reducible exact cst25 | with_reducible exact cst30 | with_reducible exact cst31 | fail) (by first | with_reducible rfl | with_reducible exact cst1 | with_reducible exact cst0 | with_reducible exact cst2 | with_reducible exact cst3 | with_reducible exact cst4 | with_reducible exact cst5 | with_reducible exact cst6 | with_reducible exact cst7 | with_reducible exact cst8 | with_reducible exact cst14 | with_reducible exact cst15 | with_reducible exact cst25 | with_reducible exact cst30 | with_reducible exact cst31 | fail) ?_ ?_; · (repeat' (first | omega | refine And.intro ?_ ?_ | exact bnd_andl (by omega) | exact bnd_andr (by omega) | refine bnd_or ?_ ?_ | refine bnd_or31 ?_ ?_ | refine bnd_xor ?_ ?_ | refine bnd_xor31 ?_ ?_ | refine bnd_shr ?_ | refine bnd_shl ?_ ?_ | refine bnd_mod ?_ | refine bnd_andl ?_ | fail))) | fail) | (refine SideN.mk ?_ ?_; · first | kernel_rfl | omega | exact List.cons_ne_nil _ _ | (simp; done) | (simp; omega) | exact trivial | assumption | fail) | (refine CallN.id ?_; first | refine CallN.det _ (between_c _ _ _ _) ?_ | fail) | refine SegN.nth (0, 0) k rfl (by omega) (fun _ => rfl) ?_ | refine SegN.nth (0, 0) (k - 1) (by omega) (by omega) (fun _ => rfl) ?_ | refine DrawN.mk' [] ?_ | fail))); all_goals (conv => whnf)
  all_goals first
    | (refine EndN.det trivial (Wk.of_eq (congrArg AV.bool ?_))
       have hno : okAt lates k = false := by simp_all [okAt]; try omega
       have := rows_no (by omega) hno
       simp_all [validB]; done)
    | (refine EndN.det trivial (Wk.of_eq (congrArg AV.bool ?_))
       have := rows_yes (l := lates) (fun i hi => hok i (by omega))
       simp_all [validB]; done)
    | (have hyes : okAt lates k = true := by simp_all [okAt]; try omega
       (refine ⟨⟨k + 1, ⟨by omega, fun i hi => by
        rcases Nat.lt_or_ge i k with h | h
        · exact hok i h
        · have : i = k := by omega
          exact this ▸ hyes⟩, by omega, ?_, .inl ⟨rfl, rfl⟩, rfl, _, rfl, ?_⟩⟩; rotate_left 1; (first | exact .inl rfl | exact .inr ⟨by simp [belowRE, below, belowL, tr, encP_below], by simp [belowH, Blk.below, belowL, below, encP_below]⟩ | fail); (repeat' (first | exact trivial | refine ⟨⟨_, rfl, ?_⟩, ?_⟩ | fail)); all_goals try (first | exact Wk.refl _ | exact Wk.of_eq (congrArg (AV.int _) (by omega)) | fail)))

structure Wrk where
  prog : Int
  days : Int
  att : Int
  hints : Int
def Wrk.cells (w : Wrk) : List AV := [.int .i64 w.prog, .int .i64 w.days, .int .i64 w.att, .int .i64 w.hints]
def whole : Int := 1152921504606846976
def wvalid (w : Wrk) : Bool := btw w.prog 0 1152921504606846976 && (btw w.days 0 1000 && (btw w.att 1 100 && btw w.hints 0 100))
theorem wvalid_c (w : Wrk) (H : Heap) : VDet Try.prog 60 [.agg w.cells] H (.bool (wvalid w)) := by
  obtain ⟨prog, days, att, hints⟩ := w
  unfold Wrk.cells
  simp only
  refine fn_det Try.E0 Try.mx Try.func60 (by kernel_rfl) rfl (Nat.le_of_ble_eq_true rfl) rfl fun hcl hbl => ?_
  (repeat' ((conv => whnf); (first | (refine IfN.id ?_; first | (refine IfN.mk ?_ ?_ <;> intro _) | fail) | (refine CallN.id ?_; first | refine CallN.det _ (between_c _ _ _ _) ?_ | fail) | refine DrawN.mk' [] ?_ | fail))); all_goals (conv => whnf)
  all_goals refine EndN.det trivial (Wk.of_eq (congrArg AV.bool ?_))
  all_goals simp_all [wvalid]

theorem mask32 (x : Int) (h : 0 ≤ x ∧ x < 18446744073709551616) : bits .and .u64 x 4294967295 = x % 4294967296 := by
  rw [u64_and x 4294967295 h.1 h.2 (by omega) (by omega)]
  have : (4294967295 : Int).toNat = 2 ^ 32 - 1 := by decide
  rw [this, Nat.and_two_pow_sub_one_eq_mod]
  omega
theorem mul_le32 {a b : Int} (ha : 0 ≤ a ∧ a ≤ 4294967295) (hb : 0 ≤ b ∧ b ≤ 4294967295) : 0 ≤ a * b ∧ a * b ≤ 18446744065119617025 :=
  ⟨Int.mul_nonneg ha.1 hb.1, Int.le_trans (Int.mul_le_mul ha.2 hb.2 hb.1 (by omega)) (by decide)⟩
theorem mul64_c (x y : Int) (hx : 0 ≤ x ∧ x < 18446744073709551616) (hy : 0 ≤ y ∧ y < 18446744073709551616) (H : Heap) :
    VDet Try.prog 97 [.int .u64 x, .int .u64 y] H (.tup [.int .u64 (x * y / 18446744073709551616), .int .u64 (x * y % 18446744073709551616)]) := by
  have h00 := mul_le32 (a := x % 4294967296) (b := y % 4294967296) (by omega) (by omega)
  have h10 := mul_le32 (a := x / 4294967296) (b := y % 4294967296) (by omega) (by omega)
  have h01 := mul_le32 (a := x % 4294967296) (b := y / 4294967296) (by omega) (by omega)
  have h11 := mul_le32 (a := x / 4294967296) (b := y / 4294967296) (by omega) (by omega)
  have key : x * y = x / 4294967296 * (y / 4294967296) * 18446744073709551616 + (x / 4294967296 * (y % 4294967296) + x % 4294967296 * (y / 4294967296)) * 4294967296 + x % 4294967296 * (y % 4294967296) := by
    have e1 : x = x / 4294967296 * 4294967296 + x % 4294967296 := by omega
    have e2 : y = y / 4294967296 * 4294967296 + y % 4294967296 := by omega
    generalize x / 4294967296 = x1 at *
    generalize x % 4294967296 = x0 at *
    generalize y / 4294967296 = y1 at *
    generalize y % 4294967296 = y0 at *
    subst e1 e2
    simp only [Int.add_mul, Int.mul_add]
    have e3 : x1 * 4294967296 * (y1 * 4294967296) = x1 * y1 * 18446744073709551616 := by
      rw [Int.mul_assoc x1, Int.mul_left_comm 4294967296 y1, ← Int.mul_assoc x1 y1]; rfl
    have e4 : x1 * 4294967296 * y0 = x1 * y0 * 4294967296 := by rw [Int.mul_right_comm]
    have e5 : x0 * (y1 * 4294967296) = x0 * y1 * 4294967296 := by rw [Int.mul_assoc]
    rw [e3, e4, e5]
    omega
  rw [key]
  refine fn_det Try.E0 Try.mx Try.func97 (by kernel_rfl) rfl (Nat.le_of_ble_eq_true rfl) rfl fun hcl hbl => ?_
  (repeat' ((conv => whnf); (first | (refine EqN.id ?_; first | refine EqN.mk _ (mask32 _ (by omega)) ?_ | refine EqN.shrL 32 4294967296 rfl rfl rfl ?_ | refine EqN.u64 (by omega) ?_ | refine EqN.mk _ rfl ?_ | fail) | (refine SideN.mk ?_ ?_; · first | kernel_rfl | omega | exact List.cons_ne_nil _ _ | (simp; done) | (simp; omega) | exact trivial | assumption | fail) | refine DrawN.mk' [] ?_ | fail))); all_goals (conv => whnf)
  refine EndN.det (by simp [below, belowL]) (Wk.of_eq ?_)
  simp only [AV.tup.injEq, List.cons.injEq, AV.int.injEq, true_and, and_true]
  refine ⟨by omega, ?_⟩
  rw [key, IntKind.wrap_u64]
end Go.Proofs.Ytgopbbkpcjgihaa
/-! text B38 -/
namespace Go.Proofs.Ytgopbbkpcjgihaa
open Go.Vsi
attribute [local irreducible] VW VCall VO bits
set_option maxHeartbeats 2000000
theorem or_add (h l : Int) (h1 : 0 ≤ h ∧ h < 1152921504606846976) (h2 : 0 ≤ l ∧ l < 16) : bits .or .u64 (h * 16) l = h * 16 + l := by
  rw [u64_or (h * 16) l (by omega) (by omega) (by omega) (by omega)]
  obtain ⟨a, rfl⟩ := Int.eq_ofNat_of_zero_le h1.1
  obtain ⟨b, rfl⟩ := Int.eq_ofNat_of_zero_le h2.1
  have e : ((a : Int) * 16).toNat = a <<< 4 := by
    rw [Nat.shiftLeft_eq]
    omega
  rw [e, Int.toNat_natCast, ← Nat.shiftLeft_add_eq_or_of_lt (by omega), Nat.shiftLeft_eq]
  omega

def baseF (s : Sch) (w : Wrk) : Int := if w.prog = 1152921504606846976 then s.pts else s.pts * s.part * w.prog / 1152921504606846976 / 100
theorem base_c (s : Sch) (w : Wrk) (h1 : 0 ≤ s.pts ∧ s.pts ≤ 10000) (h2 : 0 ≤ s.part ∧ s.part ≤ 100) (h3 : 0 ≤ w.prog ∧ w.prog ≤ 1152921504606846976) (H : Heap) : VDet Try.prog 77 [.agg s.cells, .agg w.cells] H (.int .i64 (baseF s w)) := by
  obtain ⟨pts, part, att, rty, hnt, cnt, lates⟩ := s
  obtain ⟨prog, days, wat, hints⟩ := w
  simp only at h1 h2 h3
  have hp : 0 ≤ pts * part ∧ pts * part ≤ 1000000 := ⟨Int.mul_nonneg h1.1 h2.1, Int.le_trans (Int.mul_le_mul h1.2 h2.2 h2.1 (by omega)) (by decide)⟩
  have hq : 0 ≤ pts * part * prog ∧ pts * part * prog ≤ 1152921504606846976000000 := ⟨Int.mul_nonneg hp.1 h3.1, Int.le_trans (Int.mul_le_mul hp.2 h3.2 h3.1 (by omega)) (by decide)⟩
  unfold Sch.cells Wrk.cells
  simp only
  refine fn_det Try.E0 Try.mx Try.func77 (by kernel_rfl) rfl (Nat.le_of_ble_eq_true rfl) rfl fun hcl hbl => ?_
  (repeat' ((conv => whnf); (first | (refine IfN.id ?_; first | refine IfN.dec (fun _ => ?_) (fun _ => ?_) | fail) | (refine EqN.id ?_; first | refine EqN.shrL 60 1152921504606846976 rfl rfl rfl ?_ | refine EqN.shlU 4 16 rfl rfl rfl (by omega) ?_ | refine EqN.mk _ (or_add _ _ (by omega) (by omega)) ?_ | refine EqN.i64 (by omega) ?_ | refine EqN.quo (by omega) ?_ | refine EqN.u64 (by omega) ?_ | fail) | (refine SideN.mk ?_ ?_; · first | kernel_rfl | omega | exact List.cons_ne_nil _ _ | (simp; done) | (simp; omega) | exact trivial | assumption | fail) | (refine CallN.id ?_; first | refine CallN.det _ (mul64_c _ _ (by omega) (by omega) _) ?_ | fail) | refine DrawN.mk' [] ?_ | fail))); all_goals (conv => whnf)
  · refine EndN.det trivial (Wk.of_eq (congrArg (AV.int _) ?_))
    simp [baseF, *]
  · refine EndN.det trivial (Wk.of_eq (congrArg (AV.int _) ?_))
    simp only [baseF]
    rw [if_neg (by assumption)]
    omega

def minI (a b : Int) : Int := min a b
def lateF (s : Sch) (w : Wrk) : Int := s.lates.foldl (fun p l => if 0 < w.days ∧ l.1 ≤ w.days then l.2 else p) 0
def retryF (s : Sch) (w : Wrk) : Int := if s.att ≠ 0 ∧ s.att < w.att then 100 else min (s.rty * (w.att - 1)) 100
def hintsF (s : Sch) (w : Wrk) : Int := min (s.hnt * w.hints) 100
theorem late_c (s : Sch) (w : Wrk) (hl : s.lates.length ≤ 8) (H : Heap) : VDet Try.prog 98 [.rptr s.cells, .rptr w.cells] H (.int .i64 (lateF s w)) := by
  obtain ⟨pts, part, att, rty, hnt, cnt, lates⟩ := s
  obtain ⟨prog, days, wat, hints⟩ := w
  simp only at hl
  unfold Sch.cells Wrk.cells
  simp only
  refine fn_det Try.E0 Try.mx Try.func98 (by kernel_rfl) rfl (Nat.le_of_ble_eq_true rfl) rfl fun hcl hbl => ?_
  (repeat' ((conv => whnf); (first | refine DrawN.mk' [] ?_ | fail))); all_goals (conv => whnf)
  refine loop_R Try.E0 Try.mx (σ := Nat) (fun k => k ≤ lates.length) (fun k => lates.length - k) (fun k => [(3, .v (.int .i64 ((lates.take k).foldl (fun p l => if 0 < days ∧ l.1 ≤ days then l.2 else p) 0))), (9, .v (.int .i64 k))]) (fun _ => []) _ 0 rfl hcl [1, 7, 8] rfl (Nat.zero_le _) ⟨⟨_, rfl, Wk.refl _⟩, ⟨_, rfl, Wk.refl _⟩, trivial⟩ rfl (fun _ _ => rfl) ?_
  rintro k hk
  (repeat' ((conv => whnf); (first | (refine IfN.id ?_; first | refine IfN.dec (fun _ => ?_) (fun _ => ?_) | fail) | (refine EqN.id ?_; first | (refine EqN.addN _ _ (by first | with_reducible rfl | with_reducible exact cst1 | with_reducible exact cst0 | with_reducible exact cst2 | with_reducible exact cst3 | with_reducible exact cst4 | with_reducible exact cst5 | with_reducible exact cst6 | with_reducible exact cst7 | with_reducible exact cst8 | with_reducible exact cst14 | with_reducible exact cst15 | with_reducible exact cst25 | with_reducible exact cst30 | with_reducible exact cst31 | fail) (by first | with_reducible rfl | with_reducible exact cst1 | with_reducible exact cst0 | with_reducible exact cst2 | with_reducible exact cst3 | with_reducible exact cst4 | with_reducible exact cst5 | with_reducible exact cst6 | with_reducible exact cst7 | with_reducible exact cst8 | with_reducible exact cst14 | with_reducible exact cst15 | with_reducible exact cst25 | with_reducible exact cst30 | with_reducible exact cst31 | fail) ?_ ?_; · (repeat' (first | omega | refine And.intro ?_ ?_ | exact bnd_andl (by omega) | exact bnd_andr (by omega) | refine bnd_or ?_ ?_ | refine bnd_or31 ?_ ?_ | refine bnd_xor ?_ ?_ | refine bnd_xor31 ?_ ?_ | refine bnd_shr ?_ | refine bnd_shl ?_ ?_ | refine bnd_mod ?_ | refine bnd_andl ?_ | fail))) | fail) | (refine SideN.mk ?_ ?_; · first | kernel_rfl | omega | exact List.cons_ne_nil _ _ | (simp; done) | (simp; omega) | exact trivial | assumption | fail) | refine SegN.nth (0, 0) k rfl (by omega) (fun _ => rfl) ?_ | refine DrawN.mk' [] ?_ | fail))); all_goals (conv => whnf)
  · (refine ⟨⟨k + 1, by omega, by omega, ?_, .inl ⟨rfl, rfl⟩, rfl, _, rfl, ?_⟩⟩; rotate_left 1; (first | exact .inl rfl | exact .inr ⟨by simp [belowRE, below, belowL, tr, encP_below], by simp [belowH, Blk.below, belowL, below, encP_below]⟩ | fail); (repeat' (first | exact trivial | refine ⟨⟨_, rfl, ?_⟩, ?_⟩ | fail)); all_goals try (first | exact Wk.refl _ | exact Wk.of_eq (congrArg (AV.int _) (by omega)) | fail))
    refine Wk.of_eq (congrArg (AV.int _) ?_)
    rw [foldl_take _ _ _ (0, 0) _ (by omega), if_pos ⟨by assumption, by assumption⟩]
  · (refine ⟨⟨k + 1, by omega, by omega, ?_, .inl ⟨rfl, rfl⟩, rfl, _, rfl, ?_⟩⟩; rotate_left 1; (first | exact .inl rfl | exact .inr ⟨by simp [belowRE, below, belowL, tr, encP_below], by simp [belowH, Blk.below, belowL, below, encP_below]⟩ | fail); (repeat' (first | exact trivial | refine ⟨⟨_, rfl, ?_⟩, ?_⟩ | fail)); all_goals try (first | exact Wk.refl _ | exact Wk.of_eq (congrArg (AV.int _) (by omega)) | fail))
    refine Wk.of_eq (congrArg (AV.int _) ?_)
    rw [foldl_take _ _ _ (0, 0) _ (by omega), if_neg (fun h => absurd h.2 (by assumption))]
  · (refine ⟨⟨k + 1, by omega, by omega, ?_, .inl ⟨rfl, rfl⟩, rfl, _, rfl, ?_⟩⟩; rotate_left 1; (first | exact .inl rfl | exact .inr ⟨by simp [belowRE, below, belowL, tr, encP_below], by simp [belowH, Blk.below, belowL, below, encP_below]⟩ | fail); (repeat' (first | exact trivial | refine ⟨⟨_, rfl, ?_⟩, ?_⟩ | fail)); all_goals try (first | exact Wk.refl _ | exact Wk.of_eq (congrArg (AV.int _) (by omega)) | fail))
    refine Wk.of_eq (congrArg (AV.int _) ?_)
    rw [foldl_take _ _ _ (0, 0) _ (by omega), if_neg (fun h => absurd h.1 (by assumption))]
  · refine EndN.det trivial (Wk.of_eq (congrArg (AV.int _) ?_))
    rw [lateF, List.take_of_length_le (by omega)]
theorem retry_c (s : Sch) (w : Wrk) (h1 : 0 ≤ s.rty ∧ s.rty ≤ 100) (h2 : 1 ≤ w.att ∧ w.att ≤ 100) (H : Heap) : VDet Try.prog 99 [.rptr s.cells, .rptr w.cells] H (.int .i64 (retryF s w)) := by
  obtain ⟨pts, part, att, rty, hnt, cnt, lates⟩ := s
  obtain ⟨prog, days, wat, hints⟩ := w
  simp only at h1 h2
  have hq : 0 ≤ rty * (wat - 1) ∧ rty * (wat - 1) ≤ 10000 := ⟨Int.mul_nonneg h1.1 (by omega), Int.le_trans (Int.mul_le_mul h1.2 (by omega : wat - 1 ≤ 100) (by omega) (by omega)) (by decide)⟩
  unfold Sch.cells Wrk.cells
  simp only
  refine fn_det Try.E0 Try.mx Try.func99 (by kernel_rfl) rfl (Nat.le_of_ble_eq_true rfl) rfl fun hcl hbl => ?_
  (repeat' ((conv => whnf); (first | (refine IfN.id ?_; first | refine IfN.not ?_ | refine IfN.dec (fun _ => ?_) (fun _ => ?_) | fail) | (refine EqN.id ?_; first | refine EqN.i64 (by omega) ?_ | fail) | refine DrawN.mk' [] ?_ | fail))); all_goals (conv => whnf)
  all_goals refine EndN.det trivial (Wk.of_eq (congrArg (AV.int _) ?_))
  all_goals simp [retryF, *]
theorem hints_c (s : Sch) (w : Wrk) (h1 : 0 ≤ s.hnt ∧ s.hnt ≤ 100) (h2 : 0 ≤ w.hints ∧ w.hints ≤ 100) (H : Heap) : VDet Try.prog 100 [.rptr s.cells, .rptr w.cells] H (.int .i64 (hintsF s w)) := by
  obtain ⟨pts, part, att, rty, hnt, cnt, lates⟩ := s
  obtain ⟨prog, days, wat, hints⟩ := w
  simp only at h1 h2
  have hq : 0 ≤ hnt * hints ∧ hnt * hints ≤ 10000 := ⟨Int.mul_nonneg h1.1 (by omega), Int.le_trans (Int.mul_le_mul h1.2 h2.2 (by omega) (by omega)) (by decide)⟩
  unfold Sch.cells Wrk.cells
  simp only
  refine fn_det Try.E0 Try.mx Try.func100 (by kernel_rfl) rfl (Nat.le_of_ble_eq_true rfl) rfl fun hcl hbl => ?_
  (repeat' ((conv => whnf); (first | (refine EqN.id ?_; first | refine EqN.i64 (by omega) ?_ | fail) | refine DrawN.mk' [] ?_ | fail))); all_goals (conv => whnf)
  all_goals refine EndN.det trivial (Wk.of_eq (congrArg (AV.int _) ?_))
  all_goals simp [hintsF, *]
theorem losses_c (s : Sch) (w : Wrk) (H : Heap) : VDet Try.prog 78 [.agg s.cells, .agg w.cells] H (.sl none 3 [.clo (.func 98) [] [.rptr s.cells, .rptr w.cells], .clo (.func 99) [] [.rptr s.cells, .rptr w.cells], .clo (.func 100) [] [.rptr s.cells, .rptr w.cells]]) := by
  refine fn_det Try.E0 Try.mx Try.func78 (by kernel_rfl) rfl (Nat.le_of_ble_eq_true rfl) rfl fun hcl hbl => ?_
  (repeat' ((conv => whnf); (first | refine DrawN.mk' [] ?_ | fail))); all_goals (conv => whnf)
  refine EndN.detF (by simp [below, belowL, fnBelow, Sch.cells, Wrk.cells, encP_below]) ?_ (wk_sx _ _)
  repeat' (first | exact FrzL.nil | refine FrzL.cons ?_ ?_ | refine Frz.sx ?_ | refine Frz.clo ?_ ?_ | refine Frz.agg ?_ | refine Frz.tup ?_ | refine Frz.ptr rfl rfl (FrzL.refl _) | refine Frz.ms (by exact rfl) (by exact rfl) (FrzL.refl _) | exact Frz.refl _ | fail)

structure Mrk where
  points : Int
  base : Int
  late : Int
  retry : Int
  hints : Int
def Mrk.cells (m : Mrk) : List AV := [.int .i64 m.points, .int .i64 m.base, .int .i64 m.late, .int .i64 m.retry, .int .i64 m.hints]
def markF (s : Sch) (w : Wrk) : Mrk :=
  ⟨baseF s w * (100 - lateF s w) * (100 - retryF s w) * (100 - hintsF s w) / 1000000, baseF s w, lateF s w, retryF s w, hintsF s w⟩
theorem valid_facts {s : Sch} (h : validB s = true) : (0 ≤ s.pts ∧ s.pts ≤ 10000) ∧ (0 ≤ s.att ∧ s.att ≤ 100) ∧ (0 ≤ s.part ∧ s.part ≤ 100) ∧ (0 ≤ s.rty ∧ s.rty ≤ 100) ∧ (0 ≤ s.hnt ∧ s.hnt ≤ 100) ∧ (1 ≤ s.cnt ∧ s.cnt ≤ 3) ∧ s.lates.length ≤ 8 ∧ rowsOK s.lates = true := by
  simp only [validB, Bool.and_eq_true, Bool.not_eq_true', decide_eq_false_iff_not] at h
  obtain ⟨h1, h2, h3, h4, h5, h6, h7, h8, h9⟩ := h
  exact ⟨btw_true h1, btw_true h2, btw_true h3, btw_true h4, btw_true h5, by omega, by omega, h9⟩
theorem wvalid_facts {w : Wrk} (h : wvalid w = true) : (0 ≤ w.prog ∧ w.prog ≤ 1152921504606846976) ∧ (0 ≤ w.days ∧ w.days ≤ 1000) ∧ (1 ≤ w.att ∧ w.att ≤ 100) ∧ (0 ≤ w.hints ∧ w.hints ≤ 100) := by
  simp only [wvalid, Bool.and_eq_true] at h
  obtain ⟨h1, h2, h3, h4⟩ := h
  exact ⟨btw_true h1, btw_true h2, btw_true h3, btw_true h4⟩
theorem base_bd {s : Sch} {w : Wrk} (h1 : 0 ≤ s.pts ∧ s.pts ≤ 10000) (h2 : 0 ≤ s.part ∧ s.part ≤ 100) (h3 : 0 ≤ w.prog ∧ w.prog ≤ 1152921504606846976) : 0 ≤ baseF s w ∧ baseF s w ≤ s.pts := by
  unfold baseF
  split
  · omega
  · have hp : 0 ≤ s.pts * s.part ∧ s.pts * s.part ≤ s.pts * 100 := ⟨Int.mul_nonneg h1.1 h2.1, Int.mul_le_mul_of_nonneg_left h2.2 h1.1⟩
    have hq : 0 ≤ s.pts * s.part * w.prog ∧ s.pts * s.part * w.prog ≤ s.pts * 100 * 1152921504606846976 := ⟨Int.mul_nonneg hp.1 h3.1, Int.mul_le_mul hp.2 h3.2 h3.1 (by omega)⟩
    omega
theorem okAt_bd {l : List (Int × Int)} (h : rowsOK l = true) {i : Nat} (hi : i < l.length) : okAt l i = true := by
  unfold rowsOK at h
  rw [List.all_eq_true] at h
  exact h i (List.mem_range.2 hi)
theorem late_bd {s : Sch} {w : Wrk} (h : rowsOK s.lates = true) : 0 ≤ lateF s w ∧ lateF s w ≤ 100 := by
  have key : ∀ k, k ≤ s.lates.length → 0 ≤ (s.lates.take k).foldl (fun p l => if 0 < w.days ∧ l.1 ≤ w.days then l.2 else p) 0 ∧ (s.lates.take k).foldl (fun p l => if 0 < w.days ∧ l.1 ≤ w.days then l.2 else p) 0 ≤ 100 := by
    intro k
    induction k with
    | zero => intro _; simp
    | succ k ih =>
      intro hk
      rw [foldl_take _ _ _ (0, 0) _ (by omega)]
      have h1 := okAt_bd h (i := k) (by omega)
      simp only [okAt, Bool.and_eq_true] at h1
      have h2 := btw_true h1.2.1
      split
      · exact h2
      · exact ih (by omega)
  have := key s.lates.length (Nat.le_refl _)
  rwa [List.take_length] at this
theorem retry_bd {s : Sch} {w : Wrk} (h1 : 0 ≤ s.rty) (h2 : 1 ≤ w.att) : 0 ≤ retryF s w ∧ retryF s w ≤ 100 := by
  unfold retryF
  have := Int.mul_nonneg h1 (show 0 ≤ w.att - 1 by omega)
  split <;> omega
theorem hints_bd {s : Sch} {w : Wrk} (h1 : 0 ≤ s.hnt) (h2 : 0 ≤ w.hints) : 0 ≤ hintsF s w ∧ hintsF s w ≤ 100 := by
  unfold hintsF
  have := Int.mul_nonneg h1 h2
  omega
theorem mul_bd {a b M : Int} (h1 : 0 ≤ a ∧ a ≤ M) (h2 : 0 ≤ b ∧ b ≤ 100) : 0 ≤ a * b ∧ a * b ≤ M * 100 :=
  ⟨Int.mul_nonneg h1.1 h2.1, Int.mul_le_mul h1.2 h2.2 h2.1 (by omega)⟩

theorem mark_c (s : Sch) (w : Wrk) (hs : validB s = true) (hw : wvalid w = true) (H : Heap) : VDet Try.prog 61 [.agg s.cells, .agg w.cells] H (.agg (markF s w).cells) := by
  obtain ⟨s1, s2, s3, s4, s5, s6, s7, s8⟩ := valid_facts hs
  obtain ⟨w1, w2, w3, w4⟩ := wvalid_facts hw
  have b1 := base_bd s1 s3 w1
  have b2 := late_bd (w := w) s8
  have b3 := retry_bd s4.1 w3.1
  have b4 := hints_bd s5.1 w4.1
  have m1 := mul_bd (M := 10000) (b := 100 - lateF s w) (a := baseF s w) (by omega) (by omega)
  have m2 := mul_bd (b := 100 - retryF s w) m1 (by omega)
  have m3 := mul_bd (b := 100 - hintsF s w) m2 (by omega)
  refine fn_det Try.E0 Try.mx Try.func61 (by kernel_rfl) rfl (Nat.le_of_ble_eq_true rfl) rfl fun hcl hbl => ?_
  (repeat' ((conv => whnf); (first | (refine CallN.id ?_; first | refine CallN.det _ (base_c s w s1 s3 w1 _) ?_ | refine CallN.det _ (losses_c s w _) ?_ | fail) | refine DrawN.mk' [] ?_ | fail))); all_goals (conv => whnf)
  refine LoopN.rounds Try.E0 Try.mx 4 rfl ?_
  (repeat' ((conv => whnf); (first | (refine IfN.id ?_; first | refine IfN.tt rfl ?_ | refine IfN.ff rfl ?_ | fail) | (refine EqN.id ?_; first | (refine EqN.addN _ _ (by first | with_reducible rfl | with_reducible exact cst1 | with_reducible exact cst0 | with_reducible exact cst2 | with_reducible exact cst3 | with_reducible exact cst4 | with_reducible exact cst5 | with_reducible exact cst6 | with_reducible exact cst7 | with_reducible exact cst8 | with_reducible exact cst14 | with_reducible exact cst15 | with_reducible exact cst25 | with_reducible exact cst30 | with_reducible exact cst31 | fail) (by first | with_reducible rfl | with_reducible exact cst1 | with_reducible exact cst0 | with_reducible exact cst2 | with_reducible exact cst3 | with_reducible exact cst4 | with_reducible exact cst5 | with_reducible exact cst6 | with_reducible exact cst7 | with_reducible exact cst8 | with_reducible exact cst14 | with_reducible exact cst15 | with_reducible exact cst25 | with_reducible exact cst30 | with_reducible exact cst31 | fail) ?_ ?_; · (repeat' (first | omega | refine And.intro ?_ ?_ | exact bnd_andl (by omega) | exact bnd_andr (by omega) | refine bnd_or ?_ ?_ | refine bnd_or31 ?_ ?_ | refine bnd_xor ?_ ?_ | refine bnd_xor31 ?_ ?_ | refine bnd_shr ?_ | refine bnd_shl ?_ ?_ | refine bnd_mod ?_ | refine bnd_andl ?_ | fail))) | refine EqN.remN _ _ (by first | with_reducible rfl | with_reducible exact cst1 | with_reducible exact cst0 | with_reducible exact cst2 | with_reducible exact cst3 | with_reducible exact cst4 | with_reducible exact cst5 | with_reducible exact cst6 | with_reducible exact cst7 | with_reducible exact cst8 | with_reducible exact cst14 | with_reducible exact cst15 | with_reducible exact cst25 | with_reducible exact cst30 | with_reducible exact cst31 | fail) (by first | with_reducible rfl | with_reducible exact cst1 | with_reducible exact cst0 | with_reducible exact cst2 | with_reducible exact cst3 | with_reducible exact cst4 | with_reducible exact cst5 | with_reducible exact cst6 | with_reducible exact cst7 | with_reducible exact cst8 | with_reducible exact cst14 | with_reducible exact cst15 | with_reducible exact cst25 | with_reducible exact cst30 | with_reducible exact cst31 | fail) ?_ | refine EqN.i64 (by omega) ?_ | fail) | (refine SideN.mk ?_ ?_; · first | kernel_rfl | omega | exact List.cons_ne_nil _ _ | (simp; done) | (simp; omega) | exact trivial | assumption | fail) | (refine CallD.id ?_; first | refine CallD.det _ (fun _ hq X => late_c s w s7 _) ?_ | refine CallD.det _ (fun _ hq X => retry_c s w s4 w3 _) ?_ | refine CallD.det _ (fun _ hq X => hints_c s w s5 w4 _) ?_ | fail) | (refine PtrN.id ?_; first | refine PtrN.loc _ rfl ?_ | fail) | refine SegN.mk _ (seg_rfl rfl) ?_ | refine OfsN.at_ (by omega) ?_ | refine DrawN.mk' [] ?_ | fail))); all_goals (conv => whnf)
  (repeat' ((conv => whnf); (first | (refine EqN.id ?_; first | refine EqN.mk _ rfl ?_ | fail) | refine SideN.mk (by decide) ?_ | refine DrawN.mk' [] ?_ | fail))); all_goals (conv => whnf)
  refine EndN.det (by simp [below, belowL, Mrk.cells]) (Wk.of_eq ?_)
  simp only [markF, Mrk.cells, AV.agg.injEq, List.cons.injEq, AV.int.injEq, true_and, and_true]
  have e1 : ((1 * 100 % (2 ^ IntKind.i64.bits : Int).natAbs * 100 % (2 ^ IntKind.i64.bits : Int).natAbs * 100 % (2 ^ IntKind.i64.bits : Int).natAbs : Nat) : Int) = 1000000 := by decide
  rw [e1, Int.tdiv_eq_ediv_of_nonneg m3.1, IntKind.wrap_i64]
  omega
end Go.Proofs.Ytgopbbkpcjgihaa
/-! text C38 -/
namespace Go.Proofs.Ytgopbbkpcjgihaa
open Go.Vsi
attribute [local irreducible] VW VCall VO bits
set_option maxHeartbeats 2000000
def gradeF (s : Sch) (w : Wrk) : Mrk × Int := if validB s = true ∧ wvalid w = true then (markF s w, 0) else (⟨0, 0, 0, 0, 0⟩, 2)
theorem grade_c (s : Sch) (w : Wrk) (H : Heap) : VDet Try.prog 31 [.agg s.cells, .agg w.cells] H (.tup [.agg (gradeF s w).1.cells, .int .i64 (gradeF s w).2]) := by
  by_cases h1 : validB s = true
  · by_cases h2 : wvalid w = true
    · rw [show gradeF s w = (markF s w, 0) from if_pos ⟨h1, h2⟩]
      refine fn_det Try.E0 Try.mx Try.func31 (by kernel_rfl) rfl (Nat.le_of_ble_eq_true rfl) rfl fun hcl hbl => ?_
      (repeat' ((conv => whnf); (first | (refine IfN.id ?_; first | refine IfN.not ?_ | refine IfN.tt (by assumption) ?_ | fail) | (refine CallN.id ?_; first | refine CallN.det _ (valid_c s _) ?_ | refine CallN.det _ (wvalid_c w _) ?_ | refine CallN.det _ (mark_c s w h1 h2 _) ?_ | fail) | refine DrawN.mk' [] ?_ | fail))); all_goals (conv => whnf)
      exact EndN.det (by simp [below, belowL, Mrk.cells]) (Wk.refl _)
    · rw [show gradeF s w = (⟨0, 0, 0, 0, 0⟩, 2) from if_neg (fun h => h2 h.2)]
      have h2' : wvalid w = false := by simpa using h2
      refine fn_det Try.E0 Try.mx Try.func31 (by kernel_rfl) rfl (Nat.le_of_ble_eq_true rfl) rfl fun hcl hbl => ?_
      (repeat' ((conv => whnf); (first | (refine IfN.id ?_; first | refine IfN.not ?_ | refine IfN.tt (by assumption) ?_ | refine IfN.ff (by assumption) ?_ | fail) | (refine CallN.id ?_; first | refine CallN.det _ (valid_c s _) ?_ | refine CallN.det _ (wvalid_c w _) ?_ | fail) | refine DrawN.mk' [] ?_ | fail))); all_goals (conv => whnf)
      exact EndN.det (by simp [below, belowL, Mrk.cells]) (Wk.refl _)
  · rw [show gradeF s w = (⟨0, 0, 0, 0, 0⟩, 2) from if_neg (fun h => h1 h.1)]
    have h1' : validB s = false := by simpa using h1
    refine fn_det Try.E0 Try.mx Try.func31 (by kernel_rfl) rfl (Nat.le_of_ble_eq_true rfl) rfl fun hcl hbl => ?_
    (repeat' ((conv => whnf); (first | (refine IfN.id ?_; first | refine IfN.not ?_ | refine IfN.ff (by assumption) ?_ | fail) | (refine CallN.id ?_; first | refine CallN.det _ (valid_c s _) ?_ | fail) | refine DrawN.mk' [] ?_ | fail))); all_goals (conv => whnf)
    exact EndN.det (by simp [below, belowL, Mrk.cells]) (Wk.refl _)

def findF {α : Type} (p : α → Bool) : List α → Int → Int
  | [], _ => -1
  | x :: l, i => if p x then i else findF p l (i + 1)
theorem indexFunc_c (l : List Wrk) (hl : l.length ≤ 4611686018427387904) (tok : Option Nat) (F : FuncId) (cs : List AV) (p : Wrk → Bool) (hp : ∀ w H, VDet Try.prog F (.agg w.cells :: cs) H (.bool (p w))) (H : Heap) :
    VDet Try.prog 76 [.sl tok l.length (l.flatMap Wrk.cells), .clo (.func F) [] cs] H (.int .i64 (findF p l 0)) := by
  refine fn_det Try.E0 Try.mx Try.func76 (by kernel_rfl) rfl (Nat.le_of_ble_eq_true rfl) rfl fun hcl hbl => ?_
  (repeat' ((conv => whnf); (first | refine DrawN.mk' [] ?_ | fail))); all_goals (conv => whnf)
  refine loop_R Try.E0 Try.mx (σ := Nat) (fun k => k ≤ l.length ∧ findF p l 0 = findF p (l.drop k) k) (fun k => l.length - k) (fun k => [(8, .v (.int .i64 k))]) (fun _ => []) _ 0 rfl hcl [0, 1, 7] rfl ⟨Nat.zero_le _, rfl⟩ ⟨⟨_, rfl, Wk.refl _⟩, trivial⟩ rfl (fun _ _ => rfl) ?_
  rintro k ⟨hk, hf⟩
  by_cases hlt : k < l.length
  · have hd : findF p (l.drop k) k = if p (l.getD k ⟨0, 0, 0, 0⟩) then (k : Int) else findF p (l.drop (k + 1)) (k + 1) := by
      rw [List.drop_eq_getElem_cons hlt, findF]
      simp [List.getElem?_eq_getElem hlt]
    (repeat' ((conv => whnf); (first | (refine IfN.id ?_; first | refine IfN.dT (by omega) ?_ | (refine IfN.mk ?_ ?_ <;> intro _) | fail) | (refine EqN.id ?_; first | (refine EqN.addN _ _ (by first | with_reducible rfl | with_reducible exact cst1 | with_reducible exact cst0 | with_reducible exact cst2 | with_reducible exact cst3 | with_reducible exact cst4 | with_reducible exact cst5 | with_reducible exact cst6 | with_reducible exact cst7 | with_reducible exact cst8 | with_reducible exact cst14 | with_reducible exact cst15 | with_reducible exact cst25 | with_reducible exact cst30 | with_reducible exact cst31 | fail) (by first | with_reducible rfl | with_reducible exact cst1 | with_reducible exact cst0 | with_reducible exact cst2 | with_reducible exact cst3 | with_reducible exact cst4 | with_reducible exact cst5 | with_reducible exact cst6 | with_reducible exact cst7 | with_reducible exact cst8 | with_reducible exact cst14 | with_reducible exact cst15 | with_reducible exact cst25 | with_reducible exact cst30 | with_reducible exact cst31 | fail) ?_ ?_; · (repeat' (first | omega | refine And.intro ?_ ?_ | exact bnd_andl (by omega) | exact bnd_andr (by omega) | refine bnd_or ?_ ?_ | refine bnd_or31 ?_ ?_ | refine bnd_xor ?_ ?_ | refine bnd_xor31 ?_ ?_ | refine bnd_shr ?_ | refine bnd_shl ?_ ?_ | refine bnd_mod ?_ | refine bnd_andl ?_ | fail))) | fail) | (refine SideN.mk ?_ ?_; · first | kernel_rfl | omega | exact List.cons_ne_nil _ _ | (simp; done) | (simp; omega) | exact trivial | assumption | fail) | refine SegN.nth ⟨0, 0, 0, 0⟩ k rfl (by omega) (fun _ => rfl) ?_ | refine CallN.det _ (hp _ _) ?_ | refine DrawN.mk' [] ?_ | fail))); all_goals (conv => whnf)
    · refine EndN.det trivial (Wk.of_eq (congrArg (AV.int _) ?_))
      rw [hf, hd, if_pos (by assumption)]
    · (refine ⟨⟨k + 1, ⟨by omega, by rw [hf, hd, if_neg (by simp_all)]; rfl⟩, by omega, ?_, .inl ⟨rfl, rfl⟩, rfl, _, rfl, ?_⟩⟩; rotate_left 1; (first | exact .inl rfl | exact .inr ⟨by simp [belowRE, below, belowL, tr, encP_below], by simp [belowH, Blk.below, belowL, below, encP_below]⟩ | fail); (repeat' (first | exact trivial | refine ⟨⟨_, rfl, ?_⟩, ?_⟩ | fail)); all_goals try (first | exact Wk.refl _ | exact Wk.of_eq (congrArg (AV.int _) (by omega)) | fail))
  · (repeat' ((conv => whnf); (first | (refine IfN.id ?_; first | refine IfN.dF (by omega) ?_ | fail) | refine DrawN.mk' [] ?_ | fail))); all_goals (conv => whnf)
    refine EndN.det trivial (Wk.of_eq (congrArg (AV.int _) ?_))
    rw [hf, List.drop_of_length_le (by omega), findF]
theorem findF_nonneg {α : Type} (p : α → Bool) : ∀ (l : List α) (i : Int), 0 ≤ i → decide (0 ≤ findF p l i) = l.any p
  | [], i, _ => by simp [findF]
  | x :: l, i, h => by
    simp only [findF, List.any_cons]
    by_cases hp : p x = true
    · simp [hp, h]
    · simp [hp, findF_nonneg p l (i + 1) (by omega)]
theorem containsFunc_c (l : List Wrk) (hl : l.length ≤ 4611686018427387904) (tok : Option Nat) (F : FuncId) (cs : List AV) (p : Wrk → Bool) (hp : ∀ w H, VDet Try.prog F (.agg w.cells :: cs) H (.bool (p w))) (H : Heap) :
    VDet Try.prog 58 [.sl tok l.length (l.flatMap Wrk.cells), .clo (.func F) [] cs] H (.bool (l.any p)) := by
  refine fn_det Try.E0 Try.mx Try.func58 (by kernel_rfl) rfl (Nat.le_of_ble_eq_true rfl) rfl fun hcl hbl => ?_
  (repeat' ((conv => whnf); (first | (refine CallN.id ?_; first | refine CallN.det _ (indexFunc_c l hl tok F cs p hp _) ?_ | fail) | refine DrawN.mk' [] ?_ | fail))); all_goals (conv => whnf)
  refine EndN.det trivial (Wk.of_eq (congrArg AV.bool ?_))
  rw [← findF_nonneg p l 0 (by omega)]
theorem total1_c (w : Wrk) (H : Heap) : VDet Try.prog 59 [.agg w.cells] H (.bool (!wvalid w)) := by
  refine fn_det Try.E0 Try.mx Try.func59 (by kernel_rfl) rfl (Nat.le_of_ble_eq_true rfl) rfl fun hcl hbl => ?_
  (repeat' ((conv => whnf); (first | (refine CallN.id ?_; first | refine CallN.det _ (wvalid_c w _) ?_ | fail) | refine DrawN.mk' [] ?_ | fail))); all_goals (conv => whnf)
  exact EndN.det trivial (Wk.refl _)

def encI (x : Int) : List AV := [.int .i64 x]
theorem encI_below (n : Nat) (l : List Int) : belowL n (l.flatMap encI) := belowL_flat _ fun x => by simp [encI, belowL, below]
def maxL (l : List Int) : Int := l.tail.foldl max (l.getD 0 0)
theorem max_c (l : List Int) (h0 : 0 < l.length) (hl : l.length ≤ 4611686018427387904) (tok : Option Nat) (H : Heap) : VDet Try.prog 80 [.sl tok l.length (l.flatMap encI)] H (.int .i64 (maxL l)) := by
  refine fn_det Try.E0 Try.mx Try.func80 (by kernel_rfl) rfl (Nat.le_of_ble_eq_true rfl) rfl fun hcl hbl => ?_
  (repeat' ((conv => whnf); (first | (refine IfN.id ?_; first | refine IfN.dF (by omega) ?_ | fail) | (refine SideN.mk ?_ ?_; · first | kernel_rfl | omega | exact List.cons_ne_nil _ _ | (simp; done) | (simp; omega) | exact trivial | assumption | fail) | refine SegN.nth 0 0 rfl (by omega) (fun _ => rfl) ?_ | refine DrawN.mk' [] ?_ | fail))); all_goals (conv => whnf)
  refine loop_R Try.E0 Try.mx (σ := Nat) (fun k => 1 ≤ k ∧ k ≤ l.length) (fun k => l.length - k) (fun k => [(3, .v (.int .i64 (maxL (l.take k)))), (4, .v (.int .i64 k))]) (fun _ => []) _ 1 rfl hcl [0] rfl ⟨Nat.le_refl _, h0⟩ ⟨⟨_, rfl, Wk.of_eq ?_⟩, ⟨_, rfl, Wk.refl _⟩, trivial⟩ rfl (fun _ _ => rfl) ?_
  · cases l with
    | nil => simp at h0
    | cons x l => simp [maxL, tr]
  rintro k ⟨hk1, hk⟩
  (repeat' ((conv => whnf); (first | (refine IfN.id ?_; first | refine IfN.dec (fun _ => ?_) (fun _ => ?_) | fail) | (refine EqN.id ?_; first | (refine EqN.addN _ _ (by first | with_reducible rfl | with_reducible exact cst1 | with_reducible exact cst0 | with_reducible exact cst2 | with_reducible exact cst3 | with_reducible exact cst4 | with_reducible exact cst5 | with_reducible exact cst6 | with_reducible exact cst7 | with_reducible exact cst8 | with_reducible exact cst14 | with_reducible exact cst15 | with_reducible exact cst25 | with_reducible exact cst30 | with_reducible exact cst31 | fail) (by first | with_reducible rfl | with_reducible exact cst1 | with_reducible exact cst0 | with_reducible exact cst2 | with_reducible exact cst3 | with_reducible exact cst4 | with_reducible exact cst5 | with_reducible exact cst6 | with_reducible exact cst7 | with_reducible exact cst8 | with_reducible exact cst14 | with_reducible exact cst15 | with_reducible exact cst25 | with_reducible exact cst30 | with_reducible exact cst31 | fail) ?_ ?_; · (repeat' (first | omega | refine And.intro ?_ ?_ | exact bnd_andl (by omega) | exact bnd_andr (by omega) | refine bnd_or ?_ ?_ | refine bnd_or31 ?_ ?_ | refine bnd_xor ?_ ?_ | refine bnd_xor31 ?_ ?_ | refine bnd_shr ?_ | refine bnd_shl ?_ ?_ | refine bnd_mod ?_ | refine bnd_andl ?_ | fail))) | fail) | (refine SideN.mk ?_ ?_; · first | kernel_rfl | omega | exact List.cons_ne_nil _ _ | (simp; done) | (simp; omega) | exact trivial | assumption | fail) | refine SegN.nth 0 k rfl (by omega) (fun _ => rfl) ?_ | refine DrawN.mk' [] ?_ | fail))); all_goals (conv => whnf)
  · (refine ⟨⟨k + 1, by omega, by omega, ?_, .inl ⟨rfl, rfl⟩, rfl, _, rfl, ?_⟩⟩; rotate_left 1; (first | exact .inl rfl | exact .inr ⟨by simp [belowRE, below, belowL, tr, encP_below], by simp [belowH, Blk.below, belowL, below, encP_below]⟩ | fail); (repeat' (first | exact trivial | refine ⟨⟨_, rfl, ?_⟩, ?_⟩ | fail)); all_goals try (first | exact Wk.refl _ | exact Wk.of_eq (congrArg (AV.int _) (by omega)) | fail))
    refine Wk.of_eq (congrArg (AV.int _) ?_)
    cases l with
    | nil => simp at h0
    | cons x l =>
      obtain ⟨k, rfl⟩ : ∃ j, k = j + 1 := ⟨k - 1, by omega⟩
      simp only [maxL, List.take_succ_cons, List.tail_cons, List.getD_cons_zero, List.getD_cons_succ]
      rw [foldl_take _ _ _ 0 _ (by simp at *; omega)]
  · refine EndN.det trivial (Wk.of_eq (congrArg (AV.int _) ?_))
    rw [List.take_of_length_le (by omega)]
theorem ways1_c (l : List Int) (h0 : 0 < l.length) (hl : l.length ≤ 4611686018427387904) (tok : Option Nat) (H : Heap) : VDet Try.prog 79 [.sl tok l.length (l.flatMap encI)] H (.int .i64 (maxL l)) := by
  refine fn_det Try.E0 Try.mx Try.func79 (by kernel_rfl) rfl (Nat.le_of_ble_eq_true rfl) rfl fun hcl hbl => ?_
  (repeat' ((conv => whnf); (first | (refine CallN.id ?_; first | refine CallN.det _ (max_c l h0 hl tok _) ?_ | fail) | refine DrawN.mk' [] ?_ | fail))); all_goals (conv => whnf)
  exact EndN.det trivial (Wk.refl _)
theorem ways2_c (l : List Int) (h0 : 0 < l.length) (hl : l.length ≤ 4611686018427387904) (tok : Option Nat) (H : Heap) : VDet Try.prog 81 [.sl tok l.length (l.flatMap encI)] H (.int .i64 (l.getD (l.length - 1) 0)) := by
  refine fn_det Try.E0 Try.mx Try.func81 (by kernel_rfl) rfl (Nat.le_of_ble_eq_true rfl) rfl fun hcl hbl => ?_
  (repeat' ((conv => whnf); (first | (refine EqN.id ?_; first | (refine EqN.subN _ _ (by first | with_reducible rfl | with_reducible exact cst1 | with_reducible exact cst0 | with_reducible exact cst2 | with_reducible exact cst3 | with_reducible exact cst4 | with_reducible exact cst5 | with_reducible exact cst6 | with_reducible exact cst7 | with_reducible exact cst8 | with_reducible exact cst14 | with_reducible exact cst15 | with_reducible exact cst25 | with_reducible exact cst30 | with_reducible exact cst31 | fail) (by first | with_reducible rfl | with_reducible exact cst1 | with_reducible exact cst0 | with_reducible exact cst2 | with_reducible exact cst3 | with_reducible exact cst4 | with_reducible exact cst5 | with_reducible exact cst6 | with_reducible exact cst7 | with_reducible exact cst8 | with_reducible exact cst14 | with_reducible exact cst15 | with_reducible exact cst25 | with_reducible exact cst30 | with_reducible exact cst31 | fail) ?_ ?_; · (repeat' (first | omega | refine And.intro ?_ ?_ | exact bnd_andl (by omega) | exact bnd_andr (by omega) | refine bnd_or ?_ ?_ | refine bnd_or31 ?_ ?_ | refine bnd_xor ?_ ?_ | refine bnd_xor31 ?_ ?_ | refine bnd_shr ?_ | refine bnd_shl ?_ ?_ | refine bnd_mod ?_ | refine bnd_andl ?_ | fail))) | fail) | (refine SideN.mk ?_ ?_; · first | kernel_rfl | omega | exact List.cons_ne_nil _ _ | (simp; done) | (simp; omega) | exact trivial | assumption | fail) | refine SegN.nth 0 (l.length - 1) (by omega) (by omega) (fun _ => rfl) ?_ | refine DrawN.mk' [] ?_ | fail))); all_goals (conv => whnf)
  exact EndN.det trivial (Wk.refl _)
def sumL (l : List Int) : Int := l.foldl (· + ·) 0
theorem sum_bd (l : List Int) (hb : ∀ x ∈ l, 0 ≤ x ∧ x ≤ 10000) : ∀ k, k ≤ l.length → 0 ≤ sumL (l.take k) ∧ sumL (l.take k) ≤ 10000 * k := by
  intro k
  induction k with
  | zero => intro _; simp [sumL]
  | succ k ih =>
    intro hk
    have h1 := ih (by omega)
    have h2 := hb (l.getD k 0) (by simp [List.getElem?_eq_getElem (show k < l.length by omega)])
    unfold sumL at h1 ⊢
    rw [foldl_take _ _ _ 0 _ (by omega)]
    omega
theorem ways3_c (l : List Int) (h0 : 0 < l.length) (hl : l.length ≤ 4294967296) (hb : ∀ x ∈ l, 0 ≤ x ∧ x ≤ 10000) (tok : Option Nat) (H : Heap) : VDet Try.prog 82 [.sl tok l.length (l.flatMap encI)] H (.int .i64 (sumL l / l.length)) := by
  refine fn_det Try.E0 Try.mx Try.func82 (by kernel_rfl) rfl (Nat.le_of_ble_eq_true rfl) rfl fun hcl hbl => ?_
  (repeat' ((conv => whnf); (first | refine DrawN.mk' [] ?_ | fail))); all_goals (conv => whnf)
  refine loop_R Try.E0 Try.mx (σ := Nat) (fun k => k ≤ l.length) (fun k => l.length - k) (fun k => [(3, .v (.int .i64 (sumL (l.take k)))), (8, .v (.int .i64 k))]) (fun _ => []) _ 0 rfl hcl [0, 6, 7] rfl (Nat.zero_le _) ⟨⟨_, rfl, Wk.refl _⟩, ⟨_, rfl, Wk.refl _⟩, trivial⟩ rfl (fun _ _ => rfl) ?_
  rintro k hk
  have hs := sum_bd l hb k hk
  by_cases hlt : k < l.length
  · have hx := hb (l.getD k 0) (by simp [List.getElem?_eq_getElem hlt])
    (repeat' ((conv => whnf); (first | (refine IfN.id ?_; first | refine IfN.dT (by omega) ?_ | fail) | (refine EqN.id ?_; first | (refine EqN.addN _ _ (by first | with_reducible rfl | with_reducible exact cst1 | with_reducible exact cst0 | with_reducible exact cst2 | with_reducible exact cst3 | with_reducible exact cst4 | with_reducible exact cst5 | with_reducible exact cst6 | with_reducible exact cst7 | with_reducible exact cst8 | with_reducible exact cst14 | with_reducible exact cst15 | with_reducible exact cst25 | with_reducible exact cst30 | with_reducible exact cst31 | fail) (by first | with_reducible rfl | with_reducible exact cst1 | with_reducible exact cst0 | with_reducible exact cst2 | with_reducible exact cst3 | with_reducible exact cst4 | with_reducible exact cst5 | with_reducible exact cst6 | with_reducible exact cst7 | with_reducible exact cst8 | with_reducible exact cst14 | with_reducible exact cst15 | with_reducible exact cst25 | with_reducible exact cst30 | with_reducible exact cst31 | fail) ?_ ?_; · (repeat' (first | omega | refine And.intro ?_ ?_ | exact bnd_andl (by omega) | exact bnd_andr (by omega) | refine bnd_or ?_ ?_ | refine bnd_or31 ?_ ?_ | refine bnd_xor ?_ ?_ | refine bnd_xor31 ?_ ?_ | refine bnd_shr ?_ | refine bnd_shl ?_ ?_ | refine bnd_mod ?_ | refine bnd_andl ?_ | fail))) | refine EqN.i64 (by omega) ?_ | fail) | (refine SideN.mk ?_ ?_; · first | kernel_rfl | omega | exact List.cons_ne_nil _ _ | (simp; done) | (simp; omega) | exact trivial | assumption | fail) | refine SegN.nth 0 k rfl (by omega) (fun _ => rfl) ?_ | refine DrawN.mk' [] ?_ | fail))); all_goals (conv => whnf)
    (refine ⟨⟨k + 1, by omega, by omega, ?_, .inl ⟨rfl, rfl⟩, rfl, _, rfl, ?_⟩⟩; rotate_left 1; (first | exact .inl rfl | exact .inr ⟨by simp [belowRE, below, belowL, tr, encP_below], by simp [belowH, Blk.below, belowL, below, encP_below]⟩ | fail); (repeat' (first | exact trivial | refine ⟨⟨_, rfl, ?_⟩, ?_⟩ | fail)); all_goals try (first | exact Wk.refl _ | exact Wk.of_eq (congrArg (AV.int _) (by omega)) | fail))
    refine Wk.of_eq (congrArg (AV.int _) ?_)
    unfold sumL
    rw [foldl_take _ _ _ 0 _ (by omega)]
  · (repeat' ((conv => whnf); (first | (refine IfN.id ?_; first | refine IfN.dF (by omega) ?_ | fail) | (refine EqN.id ?_; first | refine EqN.quo (by omega) ?_ | fail) | (refine SideN.mk ?_ ?_; · first | kernel_rfl | omega | exact List.cons_ne_nil _ _ | (simp; done) | (simp; omega) | exact trivial | assumption | fail) | refine DrawN.mk' [] ?_ | fail))); all_goals (conv => whnf)
    refine EndN.det trivial (Wk.of_eq (congrArg (AV.int _) ?_))
    rw [List.take_of_length_le (by omega)]
theorem ways_c (H : Heap) : VDet Try.prog 62 [] H (.sl none 3 [.int .u8 1, .clo (.func 79) [] [], .int .u8 2, .clo (.func 81) [] [], .int .u8 3, .clo (.func 82) [] []]) := by
  refine fn_det Try.E0 Try.mx Try.func62 (by kernel_rfl) rfl (Nat.le_of_ble_eq_true rfl) rfl fun hcl hbl => ?_
  (repeat' ((conv => whnf); (first | refine DrawN.mk' [] ?_ | fail))); all_goals (conv => whnf)
  exact EndN.det (by simp [below, belowL, fnBelow]) (wk_sx _ _)

def wayF (c : Int) (l : List Int) : Int := if c = 1 then maxL l else if c = 2 then l.getD (l.length - 1) 0 else sumL l / l.length
def totalF (s : Sch) (l : List Wrk) : Int × Int :=
  if validB s = true ∧ l.any (fun w => !wvalid w) = false then
    if 100 < l.length then (0, 5) else if l.length = 0 then (0, 0) else (wayF s.cnt (l.map fun w => (markF s w).points), 0)
  else (0, 2)
theorem points_bd {s : Sch} {w : Wrk} (hs : validB s = true) (hw : wvalid w = true) : 0 ≤ (markF s w).points ∧ (markF s w).points ≤ 10000 := by
  obtain ⟨s1, s2, s3, s4, s5, s6, s7, s8⟩ := valid_facts hs
  obtain ⟨w1, w2, w3, w4⟩ := wvalid_facts hw
  have b1 := base_bd s1 s3 w1
  have b2 := late_bd (w := w) s8
  have b3 := retry_bd s4.1 w3.1
  have b4 := hints_bd s5.1 w4.1
  have m1 := mul_bd (M := 10000) (b := 100 - lateF s w) (a := baseF s w) (by omega) (by omega)
  have m2 := mul_bd (b := 100 - retryF s w) m1 (by omega)
  have m3 := mul_bd (b := 100 - hintsF s w) m2 (by omega)
  simp only [markF]
  omega
theorem total_c (s : Sch) (l : List Wrk) (hl : l.length ≤ 4611686018427387904) (tok : Option Nat) (H : Heap) : VDet Try.prog 30 [.agg s.cells, .sl tok l.length (l.flatMap Wrk.cells)] H (.tup [.int .i64 (totalF s l).1, .int .i64 (totalF s l).2]) := by
  by_cases h1 : validB s = true
  case neg =>
    have h1' : validB s = false := by simpa using h1
    rw [show totalF s l = (0, 2) from if_neg (fun h => h1 h.1)]
    refine fn_det Try.E0 Try.mx Try.func30 (by kernel_rfl) rfl (Nat.le_of_ble_eq_true rfl) rfl fun hcl hbl => ?_
    (repeat' ((conv => whnf); (first | (refine IfN.id ?_; first | refine IfN.not ?_ | refine IfN.ff (by assumption) ?_ | fail) | (refine CallN.id ?_; first | refine CallN.det _ (valid_c s _) ?_ | fail) | refine DrawN.mk' [] ?_ | fail))); all_goals (conv => whnf)
    exact EndN.det (by simp [below, belowL]) (Wk.refl _)
  cases h2 : l.any (fun w => !wvalid w) with
  | true =>
    rw [show totalF s l = (0, 2) from if_neg (fun h => by rw [h2] at h; cases h.2)]
    refine fn_det Try.E0 Try.mx Try.func30 (by kernel_rfl) rfl (Nat.le_of_ble_eq_true rfl) rfl fun hcl hbl => ?_
    (repeat' ((conv => whnf); (first | (refine IfN.id ?_; first | refine IfN.not ?_ | refine IfN.tt (by assumption) ?_ | fail) | (refine CallN.id ?_; first | refine CallN.det _ (valid_c s _) ?_ | refine CallN.det _ (containsFunc_c l hl tok 59 [] _ total1_c _) ?_ | fail) | refine DrawN.mk' [] ?_ | fail))); all_goals (conv => whnf)
    exact EndN.det (by simp [below, belowL]) (Wk.refl _)
  | false =>
  rw [show totalF s l = (if 100 < l.length then (0, 5) else if l.length = 0 then (0, 0) else (wayF s.cnt (l.map fun w => (markF s w).points), 0)) from if_pos ⟨h1, h2⟩]
  by_cases h3 : 100 < l.length
  · rw [if_pos h3]
    refine fn_det Try.E0 Try.mx Try.func30 (by kernel_rfl) rfl (Nat.le_of_ble_eq_true rfl) rfl fun hcl hbl => ?_
    (repeat' ((conv => whnf); (first | (refine IfN.id ?_; first | refine IfN.not ?_ | refine IfN.dT (by omega) ?_ | refine IfN.tt (by assumption) ?_ | refine IfN.ff (by assumption) ?_ | fail) | (refine CallN.id ?_; first | refine CallN.det _ (valid_c s _) ?_ | refine CallN.det _ (containsFunc_c l hl tok 59 [] _ total1_c _) ?_ | fail) | refine DrawN.mk' [] ?_ | fail))); all_goals (conv => whnf)
    exact EndN.det (by simp [below, belowL]) (Wk.refl _)
  rw [if_neg h3]
  by_cases h4 : l.length = 0
  · rw [if_pos h4]
    refine fn_det Try.E0 Try.mx Try.func30 (by kernel_rfl) rfl (Nat.le_of_ble_eq_true rfl) rfl fun hcl hbl => ?_
    (repeat' ((conv => whnf); (first | (refine IfN.id ?_; first | refine IfN.not ?_ | refine IfN.dT (by omega) ?_ | refine IfN.dF (by omega) ?_ | refine IfN.tt (by assumption) ?_ | refine IfN.ff (by assumption) ?_ | fail) | (refine CallN.id ?_; first | refine CallN.det _ (valid_c s _) ?_ | refine CallN.det _ (containsFunc_c l hl tok 59 [] _ total1_c _) ?_ | fail) | refine DrawN.mk' [] ?_ | fail))); all_goals (conv => whnf)
    exact EndN.det (by simp [below, belowL]) (Wk.refl _)
  rw [if_neg h4]
  have hw : ∀ k, k < l.length → wvalid (l.getD k ⟨0, 0, 0, 0⟩) = true := by
    intro k hk
    rw [List.any_eq_false] at h2
    have := h2 (l.getD k ⟨0, 0, 0, 0⟩) (by simp [List.getElem?_eq_getElem hk])
    simpa using this
  refine fn_det Try.E0 Try.mx Try.func30 (by kernel_rfl) rfl (Nat.le_of_ble_eq_true rfl) rfl fun hcl hbl => ?_
  (repeat' ((conv => whnf); (first | (refine IfN.id ?_; first | refine IfN.not ?_ | refine IfN.dF (by omega) ?_ | refine IfN.tt (by assumption) ?_ | refine IfN.ff (by assumption) ?_ | fail) | (refine CallN.id ?_; first | refine CallN.det _ (valid_c s _) ?_ | refine CallN.det _ (containsFunc_c l hl tok 59 [] _ total1_c _) ?_ | fail) | refine DrawN.mk' [] ?_ | fail))); all_goals (conv => whnf)
  refine LoopN.tok 6 3 1 rfl rfl rfl ?_
  refine loop_R Try.E0 Try.mx (σ := Nat × List AV) (fun k => k.1 ≤ l.length ∧ k.2 = ((l.take k.1).map fun w => (markF s w).points).flatMap encI) (fun k => l.length - k.1) (fun k => [(6, .v (.sl (some (H.length + 1)) k.1 k.2)), (26, .v (.int .i64 k.1))]) (fun k => [.box 28 s.cells, .tok 3 1 k.2.length]) _ (0, []) rfl hcl [2, 24, 25] rfl ⟨Nat.zero_le _, rfl⟩ ⟨⟨_, rfl, Wk.refl _⟩, ⟨_, rfl, Wk.refl _⟩, trivial⟩ rfl (fun _ _ => rfl) ?_
  rintro ⟨k, pl⟩ ⟨hk, hpl⟩
  simp only at hk hpl
  by_cases hlt : k < l.length
  · have hb : ∀ n, belowL n (pl ++ [.int .i64 (markF s (l.getD k ⟨0, 0, 0, 0⟩)).points]) := by
      intro n
      rw [hpl, belowL_append]
      exact ⟨encI_below _ _, by simp [belowL, below]⟩
    (repeat' ((conv => whnf); (first | (refine IfN.id ?_; first | refine IfN.dT (by omega) ?_ | fail) | (refine EqN.id ?_; first | (refine EqN.addN _ _ (by first | with_reducible rfl | with_reducible exact cst1 | with_reducible exact cst0 | with_reducible exact cst2 | with_reducible exact cst3 | with_reducible exact cst4 | with_reducible exact cst5 | with_reducible exact cst6 | with_reducible exact cst7 | with_reducible exact cst8 | with_reducible exact cst14 | with_reducible exact cst15 | with_reducible exact cst25 | with_reducible exact cst30 | with_reducible exact cst31 | fail) (by first | with_reducible rfl | with_reducible exact cst1 | with_reducible exact cst0 | with_reducible exact cst2 | with_reducible exact cst3 | with_reducible exact cst4 | with_reducible exact cst5 | with_reducible exact cst6 | with_reducible exact cst7 | with_reducible exact cst8 | with_reducible exact cst14 | with_reducible exact cst15 | with_reducible exact cst25 | with_reducible exact cst30 | with_reducible exact cst31 | fail) ?_ ?_; · (repeat' (first | omega | refine And.intro ?_ ?_ | exact bnd_andl (by omega) | exact bnd_andr (by omega) | refine bnd_or ?_ ?_ | refine bnd_or31 ?_ ?_ | refine bnd_xor ?_ ?_ | refine bnd_xor31 ?_ ?_ | refine bnd_shr ?_ | refine bnd_shl ?_ ?_ | refine bnd_mod ?_ | refine bnd_andl ?_ | fail))) | fail) | (refine SideN.mk ?_ ?_; · first | kernel_rfl | omega | exact List.cons_ne_nil _ _ | (simp; done) | (simp; omega) | exact trivial | assumption | fail) | (refine CallN.id ?_; first | refine CallN.det _ (mark_c s _ h1 (hw k hlt) _) ?_ | fail) | refine SegN.nth ⟨0, 0, 0, 0⟩ k rfl (by omega) (fun _ => rfl) ?_ | refine SideN.mk ⟨rfl, rfl, rfl, by dsimp only; omega, by simp only [maxLen]; omega⟩ ?_ | (refine PtrN.id ?_; first | refine PtrN.loc _ rfl ?_ | fail) | refine DrawN.mk' [] ?_ | fail))); all_goals (conv => whnf)
    refine ⟨⟨(k + 1, pl ++ [.int .i64 (markF s (l.getD k ⟨0, 0, 0, 0⟩)).points]), ⟨by simp only; omega, ?_⟩, by simp only; omega, ⟨⟨_, rfl, Wk.refl _⟩, ⟨_, rfl, Wk.refl _⟩, trivial⟩, .inl ⟨rfl, rfl⟩, rfl, _, rfl, .inr ⟨⟨⟨fun t h => ?_, hb _⟩, trivial, trivial⟩, by simp [belowH, Blk.below, Sch.cells, belowL, below, encP_below]⟩⟩⟩
    · simp only
      rw [← map_take_succ _ _ ⟨0, 0, 0, 0⟩ _ hlt, List.flatMap_append, ← hpl]
      rfl
    · cases h
      omega
  · have hk' : k = l.length := by omega
    subst hk'
    rw [List.take_length] at hpl
    generalize hps : (l.map fun w => (markF s w).points) = ps at hpl ⊢
    have hpn : ps.length = l.length := by rw [← hps]; simp
    have hpb : ∀ x ∈ ps, 0 ≤ x ∧ x ≤ 10000 := by
      intro x hx
      rw [← hps] at hx
      obtain ⟨w, hwm, rfl⟩ := List.mem_map.1 hx
      rw [List.any_eq_false] at h2
      exact points_bd h1 (by have := h2 w hwm; simpa using this)
    subst hpl
    rw [← hpn]
    obtain ⟨-, -, -, -, -, s6, -⟩ := valid_facts h1
    (repeat' ((conv => whnf); (first | (refine IfN.id ?_; first | refine IfN.dF (by omega) ?_ | fail) | (refine CallN.id ?_; first | refine CallN.det _ (ways_c _) ?_ | fail) | refine DrawN.mk' [] ?_ | fail))); all_goals (conv => whnf)
    refine LoopN.rounds Try.E0 Try.mx 4 rfl ?_
    (repeat' ((conv => whnf); (first | (refine IfN.id ?_; first | refine IfN.tt rfl ?_ | refine IfN.dT (by omega) ?_ | refine IfN.dec (fun _ => ?_) (fun _ => ?_) | fail) | (refine EqN.id ?_; first | (refine EqN.addN _ _ (by first | with_reducible rfl | with_reducible exact cst1 | with_reducible exact cst0 | with_reducible exact cst2 | with_reducible exact cst3 | with_reducible exact cst4 | with_reducible exact cst5 | with_reducible exact cst6 | with_reducible exact cst7 | with_reducible exact cst8 | with_reducible exact cst14 | with_reducible exact cst15 | with_reducible exact cst25 | with_reducible exact cst30 | with_reducible exact cst31 | fail) (by first | with_reducible rfl | with_reducible exact cst1 | with_reducible exact cst0 | with_reducible exact cst2 | with_reducible exact cst3 | with_reducible exact cst4 | with_reducible exact cst5 | with_reducible exact cst6 | with_reducible exact cst7 | with_reducible exact cst8 | with_reducible exact cst14 | with_reducible exact cst15 | with_reducible exact cst25 | with_reducible exact cst30 | with_reducible exact cst31 | fail) ?_ ?_; · (repeat' (first | omega | refine And.intro ?_ ?_ | exact bnd_andl (by omega) | exact bnd_andr (by omega) | refine bnd_or ?_ ?_ | refine bnd_or31 ?_ ?_ | refine bnd_xor ?_ ?_ | refine bnd_xor31 ?_ ?_ | refine bnd_shr ?_ | refine bnd_shl ?_ ?_ | refine bnd_mod ?_ | refine bnd_andl ?_ | fail))) | fail) | (refine SideN.mk ?_ ?_; · first | kernel_rfl | omega | exact List.cons_ne_nil _ _ | (simp; done) | (simp; omega) | exact trivial | assumption | fail) | (refine CallN.id ?_; first | refine CallN.det _ (ways1_c ps (by omega) (by omega) _ _) ?_ | refine CallN.det _ (ways2_c ps (by omega) (by omega) _ _) ?_ | refine CallN.det _ (ways3_c ps (by omega) (by omega) hpb _ _) ?_ | fail) | refine SegN.mk _ (seg_rfl rfl) ?_ | refine DrawN.mk' [] ?_ | fail))); all_goals (conv => whnf)
    all_goals refine EndN.det (by simp [below, belowL]) (Wk.of_eq ?_)
    all_goals simp only [AV.tup.injEq, List.cons.injEq, AV.int.injEq, true_and, and_true]
    all_goals unfold wayF
    · rw [if_pos (by omega)]
    · rw [if_neg (by omega), if_pos (by omega)]
    · rw [if_neg (by omega), if_neg (by omega)]
end Go.Proofs.Ytgopbbkpcjgihaa
/-! text D38 -/
namespace Go.Proofs.Ytgopbbkpcjgihaa
open Go.Vsi
attribute [local irreducible] VW VCall VO bits
set_option maxHeartbeats 2000000

structure Raw where
  f0 : Int
  a : Int
  b : Int
  c : Int
  d : Int
  e : Int
  xs : List Int
  ys : List Int
def enc8 (n : Int) : List AV := [.int .u8 n]
theorem enc8_below (n : Nat) (l : List Int) : belowL n (l.flatMap enc8) := belowL_flat _ fun x => by simp [enc8, belowL, below]
def Raw.cells (r : Raw) : List AV := [.int .u16 r.f0, .int .u8 r.a, .int .u8 r.b, .int .u8 r.c, .int .u8 r.d, .int .u8 r.e, .sl none r.xs.length (r.xs.flatMap enc8), .sl none r.ys.length (r.ys.flatMap enc8)]
structure Raw.Ok (r : Raw) : Prop where
  f0 : 0 ≤ r.f0 ∧ r.f0 ≤ 65535
  a : 0 ≤ r.a ∧ r.a ≤ 255
  b : 0 ≤ r.b ∧ r.b ≤ 255
  c : 0 ≤ r.c ∧ r.c ≤ 255
  d : 0 ≤ r.d ∧ r.d ≤ 255
  e : 0 ≤ r.e ∧ r.e ≤ 255
  xl : r.xs.length ≤ 9223372036854775807
  yl : r.ys.length ≤ 9223372036854775807
  xs : ∀ x ∈ r.xs, 0 ≤ x ∧ x ≤ 255
  ys : ∀ x ∈ r.ys, 0 ≤ x ∧ x ≤ 255
def lateStep (p : Int × Int) (x y : Int) : Int × Int := (p.1 + 1 + x % 100, min (p.2 + y % 30) 100)
def latesN (r : Raw) : Nat → (Int × Int) × List (Int × Int)
  | 0 => ((-1, 0), [])
  | n + 1 => (lateStep (latesN r n).1 (r.xs.getD n 0) (r.ys.getD n 0), (latesN r n).2 ++ [lateStep (latesN r n).1 (r.xs.getD n 0) (r.ys.getD n 0)])
def rawLen (r : Raw) : Nat := min (min r.xs.length r.ys.length) 8
def builtF (r : Raw) : Sch := ⟨r.f0 % 10001, r.a % 101, r.d % 20, r.b % 101, r.c % 101, 1 + r.e % 3, (latesN r (rawLen r)).2⟩
theorem latesN_len (r : Raw) : ∀ n, (latesN r n).2.length = n
  | 0 => rfl
  | n + 1 => by simp [latesN, latesN_len r n]
theorem latesN_bd (r : Raw) (h : r.Ok) : ∀ n, n ≤ rawLen r → -1 ≤ (latesN r n).1.1 ∧ (latesN r n).1.1 ≤ n * 100 ∧ 0 ≤ (latesN r n).1.2 ∧ (latesN r n).1.2 ≤ 100
  | 0, _ => by simp [latesN]
  | n + 1, hn => by
    have ih := latesN_bd r h n (by omega)
    unfold rawLen at hn
    have hx := h.xs (r.xs.getD n 0) (by simp [List.getElem?_eq_getElem (show n < r.xs.length by omega)])
    have hy := h.ys (r.ys.getD n 0) (by simp [List.getElem?_eq_getElem (show n < r.ys.length by omega)])
    simp only [latesN, lateStep]
    omega
theorem built_c (r : Raw) (hr : r.Ok) (H : Heap) : VDet Try.prog 27 [.agg r.cells] H (.agg (builtF r).cells) := by
  have bd := latesN_bd r hr
  have ln := latesN_len r
  obtain ⟨h1, h2, h3, h4, h5, h6, h7, h8, h9, h10⟩ := hr
  refine fn_det Try.E0 Try.mx Try.func27 (by kernel_rfl) rfl (Nat.le_of_ble_eq_true rfl) rfl fun hcl hbl => ?_
  (repeat' ((conv => whnf); (first | (refine EqN.id ?_; first | refine EqN.i64 (by omega) ?_ | refine EqN.rem (by omega) ?_ | refine EqN.u8 (by omega) ?_ | fail) | (refine SideN.mk ?_ ?_; · first | kernel_rfl | omega | exact List.cons_ne_nil _ _ | (simp; done) | (simp; omega) | exact trivial | assumption | fail) | refine DrawN.mk' [] ?_ | fail))); all_goals (conv => whnf)
  refine LoopN.tokB 2 2 128 2 rfl rfl rfl rfl rfl rfl ?_
  refine loop_R Try.E0 Try.mx (σ := Nat × List AV) (fun k => k.1 ≤ rawLen r ∧ k.2 = (latesN r k.1).2.flatMap encP) (fun k => rawLen r - k.1) (fun k => [(5, .v (.int .i64 k.1))]) (fun k => [.box 71 r.cells, .box 28 [.int .i64 0, .int .i64 0, .nils, .int .i64 0, .int .i64 0, .int .i64 0, .int .u8 0], .box 28 [.int .i64 (r.f0 % 10001), .int .i64 (r.a % 101), .sl (some (H.length + 4)) k.1 k.2, .int .i64 (r.d % 20), .int .i64 (r.b % 101), .int .i64 (r.c % 101), .int .u8 (1 + r.e % 3)], .box 128 [.int .i64 (latesN r k.1).1.1, .int .i64 (latesN r k.1).1.2], .tok 128 2 k.2.length]) _ (0, []) rfl hcl [1, 2, 3, 4] rfl ⟨Nat.zero_le _, rfl⟩ ⟨⟨_, rfl, Wk.refl _⟩, trivial⟩ rfl (fun _ _ => rfl) ?_
  rintro p ⟨hk, hpl⟩
  have hb := bd p.1 hk
  by_cases hlt : p.1 < rawLen r
  · have hlt' := hlt
    unfold rawLen at hlt
    have hx := h9 (r.xs.getD p.1 0) (by simp [List.getElem?_eq_getElem (show p.1 < r.xs.length by omega)])
    have hy := h10 (r.ys.getD p.1 0) (by simp [List.getElem?_eq_getElem (show p.1 < r.ys.length by omega)])
    (repeat' ((conv => whnf); (first | (refine IfN.id ?_; first | refine IfN.dT (by omega) ?_ | fail) | (refine EqN.id ?_; first | (refine EqN.addN _ _ (by first | with_reducible rfl | with_reducible exact cst1 | with_reducible exact cst0 | with_reducible exact cst2 | with_reducible exact cst3 | with_reducible exact cst4 | with_reducible exact cst5 | with_reducible exact cst6 | with_reducible exact cst7 | with_reducible exact cst8 | with_reducible exact cst14 | with_reducible exact cst15 | with_reducible exact cst25 | with_reducible exact cst30 | with_reducible exact cst31 | fail) (by first | with_reducible rfl | with_reducible exact cst1 | with_reducible exact cst0 | with_reducible exact cst2 | with_reducible exact cst3 | with_reducible exact cst4 | with_reducible exact cst5 | with_reducible exact cst6 | with_reducible exact cst7 | with_reducible exact cst8 | with_reducible exact cst14 | with_reducible exact cst15 | with_reducible exact cst25 | with_reducible exact cst30 | with_reducible exact cst31 | fail) ?_ ?_; · (repeat' (first | omega | refine And.intro ?_ ?_ | exact bnd_andl (by omega) | exact bnd_andr (by omega) | refine bnd_or ?_ ?_ | refine bnd_or31 ?_ ?_ | refine bnd_xor ?_ ?_ | refine bnd_xor31 ?_ ?_ | refine bnd_shr ?_ | refine bnd_shl ?_ ?_ | refine bnd_mod ?_ | refine bnd_andl ?_ | fail))) | refine EqN.i64 (by omega) ?_ | refine EqN.rem (by omega) ?_ | fail) | (refine SideN.mk ?_ ?_; · first | kernel_rfl | omega | exact List.cons_ne_nil _ _ | (simp; done) | (simp; omega) | exact trivial | assumption | fail) | refine SegN.nth 0 p.1 rfl (by omega) (fun _ => rfl) ?_ | refine SideN.mk ⟨rfl, rfl, rfl, by dsimp only; omega, by simp only [maxLen]; omega⟩ ?_ | (refine PtrN.id ?_; first | refine PtrN.loc _ rfl ?_ | fail) | refine DrawN.mk' [] ?_ | fail))); all_goals (conv => whnf)
    refine ⟨⟨(p.1 + 1, p.2 ++ encP (lateStep (latesN r p.1).1 (r.xs.getD p.1 0) (r.ys.getD p.1 0))), ⟨by simp only; omega, ?_⟩, by simp only; omega, ⟨⟨_, rfl, Wk.refl _⟩, trivial⟩, .inl ⟨rfl, rfl⟩, rfl, _, rfl, ?_⟩⟩
    · simp only [latesN, List.flatMap_append, ← hpl]
      simp
    · exact .inl rfl
  · have hk' : p.1 = rawLen r := by omega
    have hlt' := hlt
    unfold rawLen at hlt
    have e1 : (builtF r).lates.length = p.1 := by rw [hk']; exact ln _
    have e2 : (builtF r).lates.flatMap encP = p.2 := by rw [hpl, hk']; rfl
    (repeat' ((conv => whnf); (first | (refine IfN.id ?_; first | refine IfN.dF (by omega) ?_ | refine IfN.dec (fun _ => ?_) (fun _ => ?_) | fail) | refine DrawN.mk' [] ?_ | fail))); all_goals (conv => whnf)
    all_goals refine EndN.det (by simp [below, belowL, Sch.cells, encP_below]) ?_
    all_goals unfold Sch.cells; rw [e1, e2]
    all_goals exact wk_agg ⟨Wk.refl _, Wk.refl _, wk_sl _ _ _, Wk.refl _, Wk.refl _, Wk.refl _, Wk.refl _, trivial⟩
end Go.Proofs.Ytgopbbkpcjgihaa
/-! text E38 -/
namespace Go.Proofs.Ytgopbbkpcjgihaa
open Go.Vsi

theorem latesN_get (r : Raw) : ∀ n i, i < n → (latesN r n).2.getD i (0, 0) = (latesN r (i + 1)).1
  | 0, i, h => absurd h (Nat.not_lt_zero i)
  | n + 1, i, h => by
    have hl := latesN_len r n
    rcases Nat.lt_or_ge i n with hi | hi
    · have := latesN_get r n i hi
      rw [List.getD_eq_getElem?_getD] at this ⊢
      rw [show (latesN r (n + 1)).2 = (latesN r n).2 ++ [lateStep (latesN r n).1 (r.xs.getD n 0) (r.ys.getD n 0)] from rfl, List.getElem?_append_left (by omega)]
      exact this
    · have : i = n := by omega
      subst this
      rw [List.getD_eq_getElem?_getD, show (latesN r (i + 1)).2 = (latesN r i).2 ++ [lateStep (latesN r i).1 (r.xs.getD i 0) (r.ys.getD i 0)] from rfl, List.getElem?_append_right (by omega)]
      simp [hl, latesN]
theorem btw_mk {n l h : Int} (h1 : l ≤ n) (h2 : n ≤ h) : btw n l h = true := by simp [btw, h1, h2]
theorem built_valid (r : Raw) (hr : r.Ok) : validB (builtF r) = true := by
  have bd := latesN_bd r hr
  have ln := latesN_len r (rawLen r)
  have hL : rawLen r ≤ 8 := by unfold rawLen; omega
  have hx : ∀ n, n < rawLen r → 0 ≤ r.xs.getD n 0 ∧ r.xs.getD n 0 ≤ 255 := fun n hn => by
    unfold rawLen at hn
    exact hr.xs _ (by simp [List.getElem?_eq_getElem (show n < r.xs.length by omega)])
  have hy : ∀ n, n < rawLen r → 0 ≤ r.ys.getD n 0 ∧ r.ys.getD n 0 ≤ 255 := fun n hn => by
    unfold rawLen at hn
    exact hr.ys _ (by simp [List.getElem?_eq_getElem (show n < r.ys.length by omega)])
  have hg := latesN_get r (rawLen r)
  obtain ⟨h1, h2, h3, h4, h5, h6, -⟩ := hr
  have hrows : rowsOK (latesN r (rawLen r)).2 = true := by
    refine rows_yes fun i hi => ?_
    rw [ln] at hi
    have e1 := hg i hi
    have b0 := bd i (by omega)
    have b1 := bd (i + 1) (by omega)
    have x0 := hx i hi
    have y0 := hy i hi
    unfold okAt
    rw [e1, btw_mk (by simp only [latesN, lateStep]; omega) (by omega), btw_mk (by omega) (by omega)]
    simp only [Bool.true_and, Bool.or_eq_true, beq_iff_eq]
    by_cases h0 : i = 0
    · exact .inl h0
    · right
      rw [hg (i - 1) (by omega), show i - 1 + 1 = i by omega]
      simp [latesN, lateStep]
      omega
  unfold validB builtF
  simp only
  rw [btw_mk (by omega) (by omega), btw_mk (by omega) (by omega), btw_mk (by omega) (by omega), btw_mk (by omega) (by omega), btw_mk (by omega) (by omega), hrows, ln]
  simp only [Bool.true_and, Bool.and_true, Bool.and_eq_true, Bool.not_eq_true', decide_eq_false_iff_not]
  omega
theorem wvalid_mk {w : Wrk} (h1 : 0 ≤ w.prog ∧ w.prog ≤ 1152921504606846976) (h2 : 0 ≤ w.days ∧ w.days ≤ 1000) (h3 : 1 ≤ w.att ∧ w.att ≤ 100) (h4 : 0 ≤ w.hints ∧ w.hints ≤ 100) : wvalid w = true := by
  unfold wvalid
  rw [btw_mk h1.1 h1.2, btw_mk h2.1 h2.2, btw_mk h3.1 h3.2, btw_mk h4.1 h4.2]
  rfl

end Go.Proofs.Ytgopbbkpcjgihaa
/-! text F38 -/
namespace Go.Proofs.Ytgopbbkpcjgihaa
open Go.Vsi
set_option maxHeartbeats 2000000
attribute [local irreducible] VW VCall VO bits

def ltS (a b : ByteArray) : Bool := Op.bytesLess a.toList b.toList
def eqS (a b : ByteArray) : Bool := a.toList == b.toList
theorem nanS_c (a : ByteArray) (H : Heap) : VDet Try.prog 69 [.str a] H (.bool false) := by
  refine fn_det Try.E0 Try.mx Try.func69 (by kernel_rfl) rfl (Nat.le_of_ble_eq_true rfl) rfl fun hcl hbl => ?_
  (repeat' ((conv => whnf); (first | refine DrawN.mk' [] ?_ | fail))); all_goals (conv => whnf)
  exact EndN.det trivial (Wk.of_eq (by simp))
def cmpS (a b : ByteArray) : Int := if ltS a b then -1 else if eqS a b then 0 else 1
theorem cmpS_c (a b : ByteArray) (H : Heap) : VDet Try.prog 43 [.str a, .str b] H (.int .i64 (cmpS a b)) := by
  refine fn_det Try.E0 Try.mx Try.func43 (by kernel_rfl) rfl (Nat.le_of_ble_eq_true rfl) rfl fun hcl hbl => ?_
  (repeat' ((conv => whnf); (first | (refine IfN.id ?_; first | refine IfN.not ?_ | refine IfN.ff rfl ?_ | (refine IfN.mk ?_ ?_ <;> intro _) | fail) | (refine CallN.id ?_; first | refine CallN.det _ (nanS_c _ _) ?_ | fail) | refine DrawN.mk' [] ?_ | fail))); all_goals (conv => whnf)
  all_goals
    refine EndN.det trivial (Wk.of_eq (congrArg (AV.int .i64) ?_))
    unfold cmpS ltS eqS
    simp_all
def isName (a : ByteArray) : Bool := decide (1 ≤ a.size) && decide (a.size ≤ 16)
theorem isName_c (a : ByteArray) (H : Heap) : VDet Try.prog 35 [.str a] H (.bool (isName a)) := by
  refine fn_det Try.E0 Try.mx Try.func35 (by kernel_rfl) rfl (Nat.le_of_ble_eq_true rfl) rfl fun hcl hbl => ?_
  (repeat' ((conv => whnf); (first | (refine IfN.id ?_; first | refine IfN.dec (fun _ => ?_) (fun _ => ?_) | fail) | refine DrawN.mk' [] ?_ | fail))); all_goals (conv => whnf)
  all_goals refine EndN.det trivial (Wk.of_eq (congrArg AV.bool ?_))
  · have h : 1 ≤ a.size := by omega
    simp [isName, h]
    omega
  · have h : decide (1 ≤ a.size) = false := decide_eq_false (by omega)
    rw [isName, h]
    rfl
def isDay (n : Int) : Bool := decide (0 ≤ n) && decide (n ≤ 1048576)
theorem isDay_c (n : Int) (H : Heap) : VDet Try.prog 36 [.int .i64 n] H (.bool (isDay n)) := by
  refine fn_det Try.E0 Try.mx Try.func36 (by kernel_rfl) rfl (Nat.le_of_ble_eq_true rfl) rfl fun hcl hbl => ?_
  (repeat' ((conv => whnf); (first | (refine IfN.id ?_; first | refine IfN.dec (fun _ => ?_) (fun _ => ?_) | fail) | refine DrawN.mk' [] ?_ | fail))); all_goals (conv => whnf)
  all_goals refine EndN.det trivial (Wk.of_eq (congrArg AV.bool ?_))
  · simp_all [isDay]
  · have h : n < 0 := by omega
    have : decide (0 ≤ n) = false := decide_eq_false (by omega)
    simp [isDay, this]

structure Ver where
  at_ : Int
  sch : Sch
def Ver.cells (v : Ver) : List AV := [.int .i64 v.at_, .int .i64 v.sch.pts, .int .i64 v.sch.part, .sl none v.sch.lates.length (v.sch.lates.flatMap encP), .int .i64 v.sch.att, .int .i64 v.sch.rty, .int .i64 v.sch.hnt, .int .u8 v.sch.cnt]
structure Ser where
  name : ByteArray
  vers : List Ver
def Ser.cells (s : Ser) : List AV := [.str s.name, .sl none s.vers.length (s.vers.flatMap Ver.cells)]
structure Ent where
  stu : ByteArray
  exe : ByteArray
  day : Int
  work : Wrk
def Ent.cells (e : Ent) : List AV := [.str e.stu, .str e.exe, .int .i64 e.day, .int .i64 e.work.prog, .int .i64 e.work.days, .int .i64 e.work.att, .int .i64 e.work.hints]
structure Bk where
  ser : List Ser
  ent : List Ent
def Bk.cells (b : Bk) : List AV := [.sl none b.ser.length (b.ser.flatMap Ser.cells), .sl none b.ent.length (b.ent.flatMap Ent.cells)]
theorem ver_below (n : Nat) (v : Ver) : belowL n v.cells := by simp [Ver.cells, belowL, below, encP_below]
theorem vers_below (n : Nat) (l : List Ver) : belowL n (l.flatMap Ver.cells) := belowL_flat _ (ver_below n)
theorem ser_below (n : Nat) (s : Ser) : belowL n s.cells := by simp [Ser.cells, belowL, below, vers_below]
theorem sers_below (n : Nat) (l : List Ser) : belowL n (l.flatMap Ser.cells) := belowL_flat _ (ser_below n)
theorem ent_below (n : Nat) (e : Ent) : belowL n e.cells := by simp [Ent.cells, belowL, below]
theorem ents_below (n : Nat) (l : List Ent) : belowL n (l.flatMap Ent.cells) := belowL_flat _ (ent_below n)
def sch0 : Sch := ⟨0, 0, 0, 0, 0, 0, []⟩
def ver0 : Ver := ⟨0, sch0⟩
def ser0 : Ser := ⟨.empty, []⟩
def wrk0 : Wrk := ⟨0, 0, 0, 0⟩
def ent0 : Ent := ⟨.empty, .empty, 0, wrk0⟩
theorem ver_size (v : Ver) : v.cells.length = 8 := rfl
theorem ser_size (s : Ser) : s.cells.length = 2 := rfl
theorem ent_size (e : Ent) : e.cells.length = 7 := rfl

abbrev lpB (n0 : Nat) (bk : RE) (N : FN) (ps : Array Tmp) (assign body : Code) (st : LoopState) (jp : Option Code) : Blk := .loop st jp (trE n0 bk) ⟨N.n, ps, assign, body⟩
abbrev rndW (n0 k : Nat) (bk : RE) (N : FN) (ps : Array Tmp) (assign body : Code) (H : Heap) (vs1 : List AV) (R : AV → Heap → Prop) : Prop :=
  wpC Try.prog Try.kn Try.T ⟨N.n, some (n0 + k)⟩ H.length assign (fun e top bot base k' loc => match e with
      | .normal => RndB Try.prog Try.kn Try.T H (n0 + k) (trE n0 bk) ⟨N.n, ps, assign, body⟩ R top bot base k' loc
      | _ => False) (parRE ps.toList vs1 (reB n0 bk)) [] H 0 []
structure Bwd (Y : Nat → (AV → Heap → Prop) → Prop) (n m : Nat) (H He : Heap) : Prop where
  le : m ≤ n
  go : ∀ j, m ≤ j → j < n → Y j (fun r H' => r = .bool true ∧ H' = H ++ [])
  fin : (m = 0 ∧ He = H) ∨ ∃ j, m = j + 1 ∧ Y j (fun r H' => r = .bool false ∧ H' = He ++ [])
theorem bwdS_c (l : List Ser) (hl : l.length ≤ 4611686018427387904) (m i ip : Nat) (H He : Heap) (hcl : Closed H) (hip : H[ip]? = some (.box 22 [.sl none l.length (l.flatMap Ser.cells)])) (hlen : He.length = H.length)
    (hlow : ∀ (j : Nat) B, He[j]? = some B → H[j]? = some B ∨ B.below H.length)
    (hb : Bwd (fun j R => VYield Try.prog i [.int .i64 j, .agg (l.getD j ser0).cells] (H ++ []) R) l.length m H He) :
    VCall Try.prog 101 [.clo (.yield i) [] [], .ptr ip 0] H (fun _ H' => H' = He) := by
  obtain ⟨hm, hgo, hfin⟩ := hb
  refine fn_gen Try.E0 Try.mx Try.func101 (by kernel_rfl) rfl (Nat.le_of_ble_eq_true rfl) rfl fun hcl hbl => ?_
  (repeat' ((conv => whnf); (first | (refine EqN.id ?_; first | refine EqN.i64 (by omega) ?_ | fail) | (refine PtrN.id ?_; first | refine PtrN.base _ (by (repeat' (first | assumption | exact at_loc' _ rfl | exact at_loc0 rfl | refine at_set (B' := ?_) ?_ | refine at_base' ?_ | fail))) ?_ | fail) | refine DrawN.mk' [] ?_ | fail))); all_goals (conv => whnf)
  refine loop_B Try.E0 Try.mx (σ := Nat) (fun j => m ≤ j ∧ j ≤ l.length) (fun j => j) (fun j => [(3, .v (.int .i64 (j - 1 : Int)))]) (fun _ => H) (fun _ => []) _ l.length (fun j hj => rfl) (fun j hj => hcl) [0, 1] rfl ⟨hm, Nat.le_refl _⟩ ⟨⟨_, rfl, Wk.refl _⟩, trivial⟩ rfl rfl (fun _ _ => rfl) ?_
  rintro j ⟨hj1, hj2⟩
  rcases Nat.lt_or_ge m j with hj | hj
  · obtain ⟨q, rfl⟩ : ∃ q, j = q + 1 := ⟨j - 1, by omega⟩
    have hy := hgo q (by omega) (by omega)
    rw [show (q : Int) = ((q + 1 : Nat) : Int) - 1 by omega] at hy
    (repeat' ((conv => whnf); (first | (refine IfN.id ?_; first | refine IfN.not ?_ | refine IfN.tt rfl ?_ | refine IfN.dT (by omega) ?_ | fail) | (refine EqN.id ?_; first | refine EqN.i64 (by omega) ?_ | fail) | (refine SideN.mk ?_ ?_; · first | kernel_rfl | omega | exact List.cons_ne_nil _ _ | (simp; done) | (simp; omega) | exact trivial | assumption | fail) | refine SegN.nth ser0 q (by omega) (by omega) ser_size ?_ | refine CallN.fix _ _ _ _ hy rfl rfl ?_ | (refine PtrN.id ?_; first | refine PtrN.base _ (by (repeat' (first | assumption | exact at_loc' _ rfl | exact at_loc0 rfl | refine at_set (B' := ?_) ?_ | refine at_base' ?_ | fail))) ?_ | fail) | refine DrawN.mk' [] ?_ | fail))); all_goals (conv => whnf)
    (refine ⟨⟨q, ⟨by omega, by omega⟩, by omega, ?_, .inl ⟨rfl, rfl⟩, rfl, _, rfl, ?_⟩⟩; rotate_left 1; (first | exact .inl rfl | exact .inr ⟨by simp [belowRE, below, belowL, tr, and_self], by simp [belowH, Blk.below, belowL, below, and_self]⟩ | fail); (repeat' (first | exact trivial | refine ⟨⟨_, rfl, ?_⟩, ?_⟩ | fail)); all_goals try (first | exact Wk.refl _ | exact Wk.of_eq (congrArg (AV.int _) (by omega)) | fail))
  · have hjm : j = m := by omega
    subst hjm
    rcases hfin with ⟨rfl, rfl⟩ | ⟨q, rfl, hy⟩
    · (repeat' ((conv => whnf); (first | (refine IfN.id ?_; first | refine IfN.ff rfl ?_ | fail) | refine DrawN.mk' [] ?_ | fail))); all_goals (conv => whnf)
      exact .cut rfl (fun j B hB => .inl hB) ⟨_, _, .refl _, Wk.refl _, by simp [below, belowL], rfl⟩
    · rw [show (q : Int) = ((q + 1 : Nat) : Int) - 1 by omega] at hy
      (repeat' ((conv => whnf); (first | (refine IfN.id ?_; first | refine IfN.not ?_ | refine IfN.ff rfl ?_ | refine IfN.dT (by omega) ?_ | fail) | (refine SideN.mk ?_ ?_; · first | kernel_rfl | omega | exact List.cons_ne_nil _ _ | (simp; done) | (simp; omega) | exact trivial | assumption | fail) | refine SegN.nth ser0 q (by omega) (by omega) ser_size ?_ | refine CallN.fix _ _ _ _ hy hlen rfl ?_ | (refine PtrN.id ?_; first | refine PtrN.base _ (by (repeat' (first | assumption | exact at_loc' _ rfl | exact at_loc0 rfl | refine at_set (B' := ?_) ?_ | refine at_base' ?_ | fail))) ?_ | fail) | refine DrawN.mk' [] ?_ | fail))); all_goals (conv => whnf)
      exact .cut hlen hlow ⟨_, _, .refl _, Wk.refl _, by simp [below, belowL], rfl⟩
end Go.Proofs.Ytgopbbkpcjgihaa
/-! text G38 -/
namespace Go.Proofs.Ytgopbbkpcjgihaa
open Go.Vsi
set_option maxHeartbeats 2000000
attribute [local irreducible] VW VCall VO bits
theorem bwdV_c (l : List Ver) (hl : l.length ≤ 4611686018427387904) (m i ip : Nat) (H He : Heap) (hcl : Closed H) (hip : H[ip]? = some (.box 77 [.sl none l.length (l.flatMap Ver.cells)])) (hlen : He.length = H.length)
    (hlow : ∀ (j : Nat) B, He[j]? = some B → H[j]? = some B ∨ B.below H.length)
    (hb : Bwd (fun j R => VYield Try.prog i [.int .i64 j, .agg (l.getD j ver0).cells] (H ++ []) R) l.length m H He) :
    VCall Try.prog 103 [.clo (.yield i) [] [], .ptr ip 0] H (fun _ H' => H' = He) := by
  obtain ⟨hm, hgo, hfin⟩ := hb
  refine fn_gen Try.E0 Try.mx Try.func103 (by kernel_rfl) rfl (Nat.le_of_ble_eq_true rfl) rfl fun hcl hbl => ?_
  (repeat' ((conv => whnf); (first | (refine EqN.id ?_; first | refine EqN.i64 (by omega) ?_ | fail) | (refine PtrN.id ?_; first | refine PtrN.base _ (by (repeat' (first | assumption | exact at_loc' _ rfl | exact at_loc0 rfl | refine at_set (B' := ?_) ?_ | refine at_base' ?_ | fail))) ?_ | fail) | refine DrawN.mk' [] ?_ | fail))); all_goals (conv => whnf)
  refine loop_B Try.E0 Try.mx (σ := Nat) (fun j => m ≤ j ∧ j ≤ l.length) (fun j => j) (fun j => [(3, .v (.int .i64 (j - 1 : Int)))]) (fun _ => H) (fun _ => []) _ l.length (fun j hj => rfl) (fun j hj => hcl) [0, 1] rfl ⟨hm, Nat.le_refl _⟩ ⟨⟨_, rfl, Wk.refl _⟩, trivial⟩ rfl rfl (fun _ _ => rfl) ?_
  rintro j ⟨hj1, hj2⟩
  rcases Nat.lt_or_ge m j with hj | hj
  · obtain ⟨q, rfl⟩ : ∃ q, j = q + 1 := ⟨j - 1, by omega⟩
    have hy := hgo q (by omega) (by omega)
    rw [show (q : Int) = ((q + 1 : Nat) : Int) - 1 by omega] at hy
    (repeat' ((conv => whnf); (first | (refine IfN.id ?_; first | refine IfN.not ?_ | refine IfN.tt rfl ?_ | refine IfN.dT (by omega) ?_ | fail) | (refine EqN.id ?_; first | refine EqN.i64 (by omega) ?_ | fail) | (refine SideN.mk ?_ ?_; · first | kernel_rfl | omega | exact List.cons_ne_nil _ _ | (simp; done) | (simp; omega) | exact trivial | assumption | fail) | refine SegN.nth ver0 q (by omega) (by omega) ver_size ?_ | refine CallN.fix _ _ _ _ hy rfl rfl ?_ | (refine PtrN.id ?_; first | refine PtrN.base _ (by (repeat' (first | assumption | exact at_loc' _ rfl | exact at_loc0 rfl | refine at_set (B' := ?_) ?_ | refine at_base' ?_ | fail))) ?_ | fail) | refine DrawN.mk' [] ?_ | fail))); all_goals (conv => whnf)
    (refine ⟨⟨q, ⟨by omega, by omega⟩, by omega, ?_, .inl ⟨rfl, rfl⟩, rfl, _, rfl, ?_⟩⟩; rotate_left 1; (first | exact .inl rfl | exact .inr ⟨by simp [belowRE, below, belowL, tr, and_self], by simp [belowH, Blk.below, belowL, below, and_self]⟩ | fail); (repeat' (first | exact trivial | refine ⟨⟨_, rfl, ?_⟩, ?_⟩ | fail)); all_goals try (first | exact Wk.refl _ | exact Wk.of_eq (congrArg (AV.int _) (by omega)) | fail))
  · have hjm : j = m := by omega
    subst hjm
    rcases hfin with ⟨rfl, rfl⟩ | ⟨q, rfl, hy⟩
    · (repeat' ((conv => whnf); (first | (refine IfN.id ?_; first | refine IfN.ff rfl ?_ | fail) | refine DrawN.mk' [] ?_ | fail))); all_goals (conv => whnf)
      exact .cut rfl (fun j B hB => .inl hB) ⟨_, _, .refl _, Wk.refl _, by simp [below, belowL], rfl⟩
    · rw [show (q : Int) = ((q + 1 : Nat) : Int) - 1 by omega] at hy
      (repeat' ((conv => whnf); (first | (refine IfN.id ?_; first | refine IfN.not ?_ | refine IfN.ff rfl ?_ | refine IfN.dT (by omega) ?_ | fail) | (refine SideN.mk ?_ ?_; · first | kernel_rfl | omega | exact List.cons_ne_nil _ _ | (simp; done) | (simp; omega) | exact trivial | assumption | fail) | refine SegN.nth ver0 q (by omega) (by omega) ver_size ?_ | refine CallN.fix _ _ _ _ hy hlen rfl ?_ | (refine PtrN.id ?_; first | refine PtrN.base _ (by (repeat' (first | assumption | exact at_loc' _ rfl | exact at_loc0 rfl | refine at_set (B' := ?_) ?_ | refine at_base' ?_ | fail))) ?_ | fail) | refine DrawN.mk' [] ?_ | fail))); all_goals (conv => whnf)
      exact .cut hlen hlow ⟨_, _, .refl _, Wk.refl _, by simp [below, belowL], rfl⟩

theorem set_loc3 {base loc X : Heap} {j : Nat} {B B' : Blk} (h : lget loc j = some B') : ((base ++ loc) ++ X).set (base.length + j) B = (base ++ loc.set j B) ++ X := by
  have hj : j < loc.length := by
    rw [lget_eq] at h
    exact (List.getElem?_eq_some_iff.1 h).1
  rw [List.set_append_left _ _ (by simp; omega), set_loc']
theorem get_lo3 {base A Y : Heap} {j : Nat} (h : j < base.length) : ((base ++ A) ++ Y)[j]? = base[j]? := by
  rw [List.append_assoc, List.getElem?_append_left h]
theorem get_hi3 {base A Y : Heap} {j n : Nat} (hn : base.length + A.length = n) (h : n ≤ j) : ((base ++ A) ++ Y)[j]? = Y[j - n]? := by
  rw [List.getElem?_append_right (by rw [List.length_append]; omega), List.length_append, hn]
theorem rnd_end {base l l' Y : Heap} {k : Nat} {bk : RE} {N : FN} {ps : Array Tmp} {assign body : Code} {e : Exit} {jp : Option Code} {jp' : Option Code} {b : Bool} {st : LoopState} (hx : RndEx e jp' b st) (hk : l.length = k) (hk' : l'.length = k) (hb : ∀ B ∈ l', B.below (base.length + (k + 1))) (bbk : belowRE base.length (base.length + (k + 1)) bk) :
    RndEnd ((base ++ (l ++ [lpB base.length bk N ps assign body .ready none])) ++ Y) (base.length + k) (trE base.length bk) ⟨N.n, ps, assign, body⟩ (fun r H' => r = .bool b ∧ H' = (base ++ (l' ++ [lpB base.length bk N ps assign body st jp'])) ++ Y) e ((base ++ (l' ++ [lpB base.length bk N ps assign body .busy jp])) ++ Y) := by
  subst hk
  have hg : lget (l' ++ [lpB base.length bk N ps assign body .busy jp]) l.length = some (lpB base.length bk N ps assign body .busy jp) := by
    rw [lget_eq, List.getElem?_append_right (by omega), hk', Nat.sub_self]
    rfl
  refine ⟨⟨jp, jp', b, st, _, hx, at_loc' Y hg, set_loc3 hg, by simp [hk'], fun j B hj => ?_, rfl, ?_⟩⟩
  · have hs : (l' ++ [lpB base.length bk N ps assign body .busy jp]).set l.length (lpB base.length bk N ps assign body st jp') = l' ++ [lpB base.length bk N ps assign body st jp'] := by
      rw [List.set_append_right _ _ (by omega), hk', Nat.sub_self]
      rfl
    rw [hs] at hj
    rcases Nat.lt_or_ge j base.length with h1 | h1
    · left
      exact (get_lo3 h1).trans ((get_lo3 h1).symm.trans hj)
    · rcases Nat.lt_or_ge j (base.length + (l.length + 1)) with h2 | h2
      · right
        rw [List.getElem?_append_left (by simp [hk']; omega), List.getElem?_append_right h1] at hj
        have hm := List.mem_of_getElem? hj
        have q : B.below (base.length + (l.length + 1)) := by
          rcases List.mem_append.1 hm with h | h
          · exact hb B h
          · simp only [List.mem_singleton] at h
            subst h
            exact get_below bbk
        exact Blk.below_mono (by simp only [List.length_append, List.length_singleton]; omega) q
      · left
        exact (get_hi3 (by simp) h2).trans ((get_hi3 (by simp [hk']) h2).symm.trans hj)
  · have hs : (l' ++ [lpB base.length bk N ps assign body .busy jp]).set l.length (lpB base.length bk N ps assign body st jp') = l' ++ [lpB base.length bk N ps assign body st jp'] := by
      rw [List.set_append_right _ _ (by omega), hk', Nat.sub_self]
      rfl
    rw [hs]
structure BwdIt {α : Type} (F : FuncId) (bt : TypeId) (enc : α → List AV) (d : α) (l : List α) : Prop where
  it : ∀ (m i ip : Nat) (H He : Heap), Closed H → H[ip]? = some (.box bt [.sl none l.length (l.flatMap enc)]) → He.length = H.length → (∀ (j : Nat) B, He[j]? = some B → H[j]? = some B ∨ B.below H.length) →
    Bwd (fun j R => VYield Try.prog i [.int .i64 j, .agg (enc (l.getD j d))] (H ++ []) R) l.length m H He → VCall Try.prog F [.clo (.yield i) [] [], .ptr ip 0] H (fun _ H' => H' = He)
theorem range_bwd {α : Type} {F : FuncId} {bt : TypeId} {enc : α → List AV} {d : α} {l : List α} (hit : BwdIt F bt enc d l) {N : FN} {n0 : Nat} {ps : Array Tmp} {assign body : Code} {Q : QR} {top bot : RE} {base : Heap} {k : Nat} {loc : Heap}
    (hbase : base.length = n0) (hcl : Closed base) (hN : N.r = none) (ts : List Nat) (bk : RE) (hbk : pickO ts top bot = some bk)
    (hps : ∀ p ∈ ps.toList, p < N.n) (hps1 : ps.size = 2) (m : Nat) (hm : m ≤ l.length) (ip : Nat)
    (lens : loc.length = k) (hip : lget loc ip = some (.box bt [.sl none l.length (l.flatMap enc)]))
    (bls : ∀ B ∈ loc, B.below (n0 + (k + 1))) (bbk : belowRE n0 (n0 + (k + 1)) bk)
    (hyt : ∀ j, m ≤ j → j < l.length → rndW n0 k bk N ps assign body (base ++ (loc ++ [lpB n0 bk N ps assign body .ready none])) [.int .i64 j, .agg (enc (l.getD j d))] (fun r H' => r = .bool true ∧ H' = base ++ (loc ++ [lpB n0 bk N ps assign body .ready none])))
    (hfin : (m = 0 ∧ jumpN Q top bot base (k + 1) (loc ++ [.dead]) none) ∨ ∃ j le jp, m = j + 1 ∧ le.length = k ∧ (∀ B ∈ le, B.below (n0 + (k + 1))) ∧
      rndW n0 k bk N ps assign body (base ++ (loc ++ [lpB n0 bk N ps assign body .ready none])) [.int .i64 j, .agg (enc (l.getD j d))] (fun r H' => r = .bool false ∧ H' = base ++ (le ++ [lpB n0 bk N ps assign body .done (some jp)])) ∧ jumpN Q top bot base (k + 1) (le ++ [.dead]) (some jp)) :
    RangeN Try.prog N n0 F [] [.ptr (n0 + ip) 0] ps assign body Q top bot base k loc := by
  subst hbase
  have hloopb : ∀ st jp, (lpB base.length bk N ps assign body st jp).below (base.length + (k + 1)) := fun _ _ => get_below bbk
  have hlen : ∀ B, (base ++ (loc ++ [B])).length = base.length + (k + 1) := fun B => by simp [lens]
  have hiK : (base ++ (loc ++ [lpB base.length bk N ps assign body .ready none]))[base.length + k]? = some (lpB base.length bk N ps assign body .ready none) := by
    rw [List.getElem?_append_right (by omega), Nat.add_sub_cancel_left, List.getElem?_append_right (by rw [lens]; exact Nat.le_refl _), lens, Nat.sub_self]
    rfl
  have hyY : ∀ (j : Nat) R, rndW base.length k bk N ps assign body (base ++ (loc ++ [lpB base.length bk N ps assign body .ready none])) [.int .i64 j, .agg (enc (l.getD j d))] R → VYield Try.prog (base.length + k) [.int .i64 j, .agg (enc (l.getD j d))] (base ++ (loc ++ [lpB base.length bk N ps assign body .ready none])) R := fun j R h =>
    round_R Try.E0 Try.mx hiK hps (by simp [hps1]) h
  have hc0 : Closed (base ++ (loc ++ [lpB base.length bk N ps assign body .ready none])) := closed_loc hcl fun B hB => by
    rw [hlen]
    rcases List.mem_append.1 hB with h | h
    · exact bls B h
    · simp only [List.mem_singleton] at h; subst h; exact hloopb _ _
  have hipH : (base ++ (loc ++ [lpB base.length bk N ps assign body .ready none]))[base.length + ip]? = some (.box bt [.sl none l.length (l.flatMap enc)]) := at_loc0 (by rw [lget_eq]; rw [List.getElem?_append_left (List.getElem?_eq_some_iff.1 (lget_eq .. ▸ hip)).1]; exact lget_eq .. ▸ hip)
  rcases hfin with ⟨rfl, hQ⟩ | ⟨j, le, jp, rfl, lene, ble, hyf, hQ⟩
  · have h1 := hit.it 0 (base.length + k) (base.length + ip) (base ++ (loc ++ [lpB base.length bk N ps assign body .ready none])) (base ++ (loc ++ [lpB base.length bk N ps assign body .ready none])) hc0 hipH rfl (fun j B h => .inl h)
      ⟨hm, fun j h1 h2 => by simp only [List.append_nil]; exact hyY j _ (hyt j h1 h2), .inl ⟨rfl, rfl⟩⟩
    refine .mk ⟨(fun i hi => by rw [hN] at hi; cases hi), ts, bk, (fun _ H' => H' = base ++ (loc ++ [lpB base.length bk N ps assign body .ready none])), hbk, ?_, ?_⟩
    · rw [List.append_assoc]
      exact h1
    · rintro r H' rfl
      refine ⟨base, k + 1, loc ++ [lpB base.length bk N ps assign body .ready none], .ready, none, loc ++ [.dead], rfl, by simp [lens], rfl, ?_, by simp, ?_, hQ⟩
      · rw [lget_eq, List.getElem?_append_right (by omega), lens, Nat.sub_self]; rfl
      · rw [lset_some (by simp [lens])]
        rw [List.set_append_right _ _ (by omega), lens, Nat.sub_self]
        rfl
  · have h1 := hit.it (j + 1) (base.length + k) (base.length + ip) (base ++ (loc ++ [lpB base.length bk N ps assign body .ready none])) (base ++ (le ++ [lpB base.length bk N ps assign body .done (some jp)])) hc0 hipH (by simp [lens, lene]) (low_loc fun B hB => by
        rw [hlen]
        rcases List.mem_append.1 hB with h | h
        · exact ble B h
        · simp only [List.mem_singleton] at h; subst h; exact hloopb _ _)
      ⟨hm, fun j h1 h2 => by simp only [List.append_nil]; exact hyY j _ (hyt j h1 h2), .inr ⟨j, rfl, by simp only [List.append_nil]; exact hyY j _ hyf⟩⟩
    refine .mk ⟨(fun i hi => by rw [hN] at hi; cases hi), ts, bk, (fun _ H' => H' = base ++ (le ++ [lpB base.length bk N ps assign body .done (some jp)])), hbk, ?_, ?_⟩
    · rw [List.append_assoc]
      exact h1
    · rintro r H' rfl
      refine ⟨base, k + 1, le ++ [lpB base.length bk N ps assign body .done (some jp)], .done, some jp, le ++ [.dead], rfl, by simp [lene], rfl, ?_, by simp, ?_, hQ⟩
      · rw [lget_eq, List.getElem?_append_right (by omega), lene, Nat.sub_self]; rfl
      · rw [lset_some (by simp [lene])]
        rw [List.set_append_right _ _ (by omega), lene, Nat.sub_self]
        rfl

def lastF {α : Type} (p : α → Bool) : List α → Option α
  | [] => none
  | x :: l => match lastF p l with
    | some y => some y
    | none => if p x = true then some x else none
theorem lastF_none {α : Type} {p : α → Bool} : ∀ {l : List α}, (∀ x ∈ l, p x = false) → lastF p l = none
  | [], _ => rfl
  | x :: l, h => by
    unfold lastF
    rw [lastF_none fun y hy => h y (List.mem_cons_of_mem _ hy)]
    simp [h x (List.mem_cons_self)]
theorem lastF_app {α : Type} (p : α → Bool) : ∀ (l m : List α), lastF p (l ++ m) = match lastF p m with
    | some y => some y
    | none => lastF p l
  | [], m => by cases h : lastF p m <;> simp [lastF, h]
  | x :: l, m => by
    simp only [List.cons_append, lastF, lastF_app p l m]
    cases lastF p m <;> rfl
theorem lastF_at {α : Type} (p : α → Bool) (d : α) (l : List α) : ∃ m, m ≤ l.length ∧ (∀ j, m ≤ j → j < l.length → p (l.getD j d) = false) ∧ ((m = 0 ∧ lastF p l = none) ∨ ∃ j, m = j + 1 ∧ p (l.getD j d) = true ∧ lastF p l = some (l.getD j d)) := by
  induction l with
  | nil => exact ⟨0, Nat.le_refl _, fun j _ h => absurd h (Nat.not_lt_zero _), .inl ⟨rfl, rfl⟩⟩
  | cons x l ih =>
    obtain ⟨m, h1, h2, h3⟩ := ih
    rcases h3 with ⟨rfl, h3⟩ | ⟨j, rfl, h3, h4⟩
    · cases hx : p x with
      | true => exact ⟨1, by simp, fun j h4 h5 => by
          obtain ⟨q, rfl⟩ : ∃ q, j = q + 1 := ⟨j - 1, by omega⟩
          exact h2 q (Nat.zero_le _) (by simpa using h5), .inr ⟨0, rfl, hx, by simp [lastF, h3, hx]⟩⟩
      | false => exact ⟨0, Nat.zero_le _, fun j _ h5 => by
          cases j with
          | zero => exact hx
          | succ j => exact h2 j (Nat.zero_le _) (by simpa using h5), .inl ⟨rfl, by simp [lastF, h3, hx]⟩⟩
    · exact ⟨j + 2, by simpa using h1, fun q h5 h6 => by
        obtain ⟨r, rfl⟩ : ∃ r, q = r + 1 := ⟨q - 1, by omega⟩
        exact h2 r (by omega) (by simpa using h6), .inr ⟨j + 1, rfl, h3, by simp only [lastF, h4]; rfl⟩⟩
end Go.Proofs.Ytgopbbkpcjgihaa
/-! text H38 -/
namespace Go.Proofs.Ytgopbbkpcjgihaa
open Go.Vsi
set_option maxHeartbeats 2000000
attribute [local irreducible] VW VCall VO bits

theorem bw84_c (l : List Ser) (H : Heap) : VCall Try.prog 84 [.sl none l.length (l.flatMap Ser.cells)] H (fun r H' => r = .clo (.func 101) [] [.ptr (H.length + 0) 0] ∧ H' = H ++ [.box 22 [.sl none l.length (l.flatMap Ser.cells)]]) := by
  refine fn_gen Try.E0 Try.mx Try.func84 (by kernel_rfl) rfl (Nat.le_of_ble_eq_true rfl) rfl fun hcl hbl => ?_
  (repeat' ((conv => whnf); (first | refine DrawN.mk' [] ?_ | fail))); all_goals (conv => whnf)
  exact EndN.keep _ (Wk.refl _) ⟨rfl, rfl⟩
theorem bw86_c (l : List Ver) (H : Heap) : VCall Try.prog 86 [.sl none l.length (l.flatMap Ver.cells)] H (fun r H' => r = .clo (.func 103) [] [.ptr (H.length + 0) 0] ∧ H' = H ++ [.box 77 [.sl none l.length (l.flatMap Ver.cells)]]) := by
  refine fn_gen Try.E0 Try.mx Try.func86 (by kernel_rfl) rfl (Nat.le_of_ble_eq_true rfl) rfl fun hcl hbl => ?_
  (repeat' ((conv => whnf); (first | refine DrawN.mk' [] ?_ | fail))); all_goals (conv => whnf)
  exact EndN.keep _ (Wk.refl _) ⟨rfl, rfl⟩
theorem lastS_c (l : List Ser) (hl : l.length ≤ 4611686018427387904) (F : FuncId) (cs : List AV) (p : Ser → Bool) (H : Heap) (hp : ∀ s A Y X, VDet Try.prog F (.agg s.cells :: cs) (((H ++ A) ++ Y) ++ X) (.bool (p s))) :
    VDet Try.prog 65 [.sl none l.length (l.flatMap Ser.cells), .clo (.func F) [] cs] H (.tup [.agg ((lastF p l).getD ser0).cells, .bool (lastF p l).isSome]) := by
  have hb84 : ∀ B1 B2 B3, VCall Try.prog 84 [.sl none l.length (l.flatMap Ser.cells)] (H ++ [B1, B2, B3]) (fun r H' => r = .clo (.func 101) [] [.ptr (H.length + 3) 0] ∧ H' = (H ++ [B1, B2, B3]) ++ [.box 22 [.sl none l.length (l.flatMap Ser.cells)]]) := by
    intro B1 B2 B3
    have := bw84_c l (H ++ [B1, B2, B3])
    rwa [List.length_append] at this
  obtain ⟨m, hm, hno, hfin⟩ := lastF_at p ser0 l
  refine fn_det Try.E0 Try.mx Try.func65 (by kernel_rfl) rfl (Nat.le_of_ble_eq_true rfl) rfl fun hcl hbl => ?_
  have hbc : ∀ N, H.length ≤ N → belowL N cs := fun N hN => by
    simp only [belowL, below] at hbl
    exact belowL_mono hN _ hbl.2.1.2.2
  have hbls : ∀ x ∈ ([.box 157 [.clo (.func F) [] cs], .box 79 [.str .empty, .nils], .box 4 [.bool false], .box 22 [.sl none l.length (l.flatMap Ser.cells)]] : Heap), x.below (H.length + (4 + 1)) := by
    intro B hB
    simp only [List.mem_cons, List.not_mem_nil, or_false] at hB
    rcases hB with rfl | rfl | rfl | rfl
    · exact ⟨⟨trivial, trivial, hbc _ (by omega)⟩, trivial⟩
    · simp [Blk.below, belowL, below]
    · simp [Blk.below, belowL, below]
    · simp [Blk.below, belowL, below, sers_below]
  have hbk : belowRE H.length (H.length + (4 + 1)) [(3, .lp 0 0), (4, .lp 1 0), (5, .lp 2 0)] := by simp [belowRE, below, tr]
  have hround : ∀ (s : Ser), ∃ x n c, s.cells = [.str x, .sl none n c] := fun s => ⟨_, _, _, rfl⟩
  (repeat' ((conv => whnf); (first | refine CallN.grow _ _ _ 4 (hb84 _ _ _) rfl rfl rfl ?_ | refine DrawN.mk' [] ?_ | fail))); all_goals (conv => whnf)
  refine range_bwd (d := ser0) ⟨fun m i ip H He h1 h2 h3 h4 h5 => bwdS_c l hl m i ip H He h1 h2 h3 h4 h5⟩ rfl hcl rfl [3, 4, 5] _ rfl (by decide) rfl m hm 3 rfl rfl hbls hbk ?_ ?_
  · intro j hj1 hj2
    have hpj := fun A Y X => hp (l.getD j ser0) A Y X
    have hpf := hno j hj1 hj2
    obtain ⟨x, n, c, hxy⟩ := hround (l.getD j ser0)
    rw [hxy] at hpj ⊢
    rw [hpf] at hpj
    rw [← List.append_nil (H ++ _)]
    (repeat' ((conv => whnf); (first | refine DrawN.mk' [] ?_ | fail))); all_goals (conv => whnf)
    refine ⟨none, _, at_loc' [] rfl, set_loc3 rfl, ?_⟩
    generalize hB : Blk.loop LoopState.busy none _ _ = B
    (repeat' ((conv => whnf); (first | (refine IfN.id ?_; first | refine IfN.ff rfl ?_ | fail) | (refine CallN.id ?_; first | refine CallN.det _ (hpj _ _ _) ?_ | fail) | (refine PtrN.id ?_; first | refine PtrN.base _ (by (repeat' (first | assumption | exact at_loc' _ rfl | exact at_loc0 rfl | refine at_set (B' := ?_) ?_ | refine at_base' ?_ | fail))) ?_ | fail) | refine DrawN.mk' [] ?_ | fail))); all_goals (conv => whnf)
    subst hB
    exact rnd_end (l' := [_, _, _, _]) .normal rfl rfl hbls hbk
  · rcases hfin with ⟨rfl, hf⟩ | ⟨j, rfl, hpj0, hf⟩
    · refine .inl ⟨rfl, ?_⟩
      (repeat' ((conv => whnf); (first | refine DrawN.mk' [] ?_ | fail))); all_goals (conv => whnf)
      refine EndN.det (by simp [below, belowL, ser_below]) ?_
      rw [hf]
      (repeat' (first | exact trivial | refine And.intro ?_ ?_ | exact Wk.refl _ | exact wk_sl _ _ _ | exact wk_sx _ _ | exact wk_nils | refine wk_agg ?_ | refine wk_tup ?_ | fail)); done
    · obtain ⟨x, n, c, hxy⟩ := hround (l.getD j ser0)
      have hbel := ser_below (H.length + 5) (l.getD j ser0)
      have hbel2 := ser_below H.length (l.getD j ser0)
      have hpj := fun A Y X => hp (l.getD j ser0) A Y X
      rw [hpj0] at hpj
      rw [hf]
      simp only [Option.getD_some, Option.isSome_some]
      rw [hxy] at hpj hbel hbel2 ⊢
      refine .inr ⟨j, [.box 157 [.clo (.func F) [] cs], .box 79 [.str x, .sl none n c], .box 4 [.bool true], .box 22 [.sl none l.length (l.flatMap Ser.cells)]], .ret, rfl, rfl, ?_, ?_, ?_⟩
      · intro B hB
        simp only [List.mem_cons, List.not_mem_nil, or_false] at hB
        rcases hB with rfl | rfl | rfl | rfl
        · exact ⟨⟨trivial, trivial, hbc _ (by omega)⟩, trivial⟩
        · exact hbel
        · simp [Blk.below, belowL, below]
        · simp [Blk.below, belowL, below, sers_below]
      · rw [hxy, ← List.append_nil (H ++ _)]
        (repeat' ((conv => whnf); (first | refine DrawN.mk' [] ?_ | fail))); all_goals (conv => whnf)
        refine ⟨none, _, at_loc' [] rfl, set_loc3 rfl, ?_⟩
        generalize hB : Blk.loop LoopState.busy none _ _ = B
        (repeat' ((conv => whnf); (first | refine SetN.mk _ (set_loc3 rfl) ?_ | (refine IfN.id ?_; first | refine IfN.tt rfl ?_ | fail) | (refine CallN.id ?_; first | refine CallN.det _ (hpj _ _ _) ?_ | fail) | (refine PtrN.id ?_; first | refine PtrN.base _ (by (repeat' (first | assumption | exact at_loc' _ rfl | exact at_loc0 rfl | refine at_set (B' := ?_) ?_ | refine at_base' ?_ | fail))) ?_ | fail) | refine DrawN.mk' [] ?_ | fail))); all_goals (conv => whnf)
        subst hB
        rw [← List.append_nil (H ++ ([_, _, _, _] ++ _))]
        refine rnd_end (l' := [_, _, _, _]) .ret rfl rfl ?_ hbk
        intro B hB
        simp only [List.mem_cons, List.not_mem_nil, or_false] at hB
        rcases hB with rfl | rfl | rfl | rfl
        · exact ⟨⟨trivial, trivial, hbc _ (by omega)⟩, trivial⟩
        · exact hbel
        · simp [Blk.below, belowL, below]
        · simp [Blk.below, belowL, below, sers_below]
      · (repeat' ((conv => whnf); (first | refine DrawN.mk' [] ?_ | fail))); all_goals (conv => whnf)
        refine EndN.det (by simpa [below, belowL] using hbel2) ?_
        (repeat' (first | exact trivial | refine And.intro ?_ ?_ | exact Wk.refl _ | exact wk_sl _ _ _ | exact wk_sx _ _ | exact wk_nils | refine wk_agg ?_ | refine wk_tup ?_ | fail)); done
theorem lastV_c (l : List Ver) (hl : l.length ≤ 4611686018427387904) (F : FuncId) (cs : List AV) (p : Ver → Bool) (H : Heap) (hp : ∀ s A Y X, VDet Try.prog F (.agg s.cells :: cs) (((H ++ A) ++ Y) ++ X) (.bool (p s))) :
    VDet Try.prog 72 [.sl none l.length (l.flatMap Ver.cells), .clo (.func F) [] cs] H (.tup [.agg ((lastF p l).getD ver0).cells, .bool (lastF p l).isSome]) := by
  have hb86 : ∀ B1 B2 B3, VCall Try.prog 86 [.sl none l.length (l.flatMap Ver.cells)] (H ++ [B1, B2, B3]) (fun r H' => r = .clo (.func 103) [] [.ptr (H.length + 3) 0] ∧ H' = (H ++ [B1, B2, B3]) ++ [.box 77 [.sl none l.length (l.flatMap Ver.cells)]]) := by
    intro B1 B2 B3
    have := bw86_c l (H ++ [B1, B2, B3])
    rwa [List.length_append] at this
  obtain ⟨m, hm, hno, hfin⟩ := lastF_at p ver0 l
  refine fn_det Try.E0 Try.mx Try.func72 (by kernel_rfl) rfl (Nat.le_of_ble_eq_true rfl) rfl fun hcl hbl => ?_
  have hbc : ∀ N, H.length ≤ N → belowL N cs := fun N hN => by
    simp only [belowL, below] at hbl
    exact belowL_mono hN _ hbl.2.1.2.2
  have hbls : ∀ x ∈ ([.box 165 [.clo (.func F) [] cs], .box 30 [.int .i64 0, .int .i64 0, .int .i64 0, .nils, .int .i64 0, .int .i64 0, .int .i64 0, .int .u8 0], .box 4 [.bool false], .box 77 [.sl none l.length (l.flatMap Ver.cells)]] : Heap), x.below (H.length + (4 + 1)) := by
    intro B hB
    simp only [List.mem_cons, List.not_mem_nil, or_false] at hB
    rcases hB with rfl | rfl | rfl | rfl
    · exact ⟨⟨trivial, trivial, hbc _ (by omega)⟩, trivial⟩
    · simp [Blk.below, belowL, below]
    · simp [Blk.below, belowL, below]
    · simp [Blk.below, belowL, below, vers_below]
  have hbk : belowRE H.length (H.length + (4 + 1)) [(3, .lp 0 0), (4, .lp 1 0), (5, .lp 2 0)] := by simp [belowRE, below, tr]
  have hround : ∀ (s : Ver), ∃ a b c n d e f g h, s.cells = [.int .i64 a, .int .i64 b, .int .i64 c, .sl none n d, .int .i64 e, .int .i64 f, .int .i64 g, .int .u8 h] := fun s => ⟨_, _, _, _, _, _, _, _, _, rfl⟩
  (repeat' ((conv => whnf); (first | refine CallN.grow _ _ _ 4 (hb86 _ _ _) rfl rfl rfl ?_ | refine DrawN.mk' [] ?_ | fail))); all_goals (conv => whnf)
  refine range_bwd (d := ver0) ⟨fun m i ip H He h1 h2 h3 h4 h5 => bwdV_c l hl m i ip H He h1 h2 h3 h4 h5⟩ rfl hcl rfl [3, 4, 5] _ rfl (by decide) rfl m hm 3 rfl rfl hbls hbk ?_ ?_
  · intro j hj1 hj2
    have hpj := fun A Y X => hp (l.getD j ver0) A Y X
    have hpf := hno j hj1 hj2
    obtain ⟨a1, b1, c1, n1, d1, e1, f1, g1, h1, hxy⟩ := hround (l.getD j ver0)
    rw [hxy] at hpj ⊢
    rw [hpf] at hpj
    rw [← List.append_nil (H ++ _)]
    (repeat' ((conv => whnf); (first | refine DrawN.mk' [] ?_ | fail))); all_goals (conv => whnf)
    refine ⟨none, _, at_loc' [] rfl, set_loc3 rfl, ?_⟩
    generalize hB : Blk.loop LoopState.busy none _ _ = B
    (repeat' ((conv => whnf); (first | (refine IfN.id ?_; first | refine IfN.ff rfl ?_ | fail) | (refine CallN.id ?_; first | refine CallN.det _ (hpj _ _ _) ?_ | fail) | (refine PtrN.id ?_; first | refine PtrN.base _ (by (repeat' (first | assumption | exact at_loc' _ rfl | exact at_loc0 rfl | refine at_set (B' := ?_) ?_ | refine at_base' ?_ | fail))) ?_ | fail) | refine DrawN.mk' [] ?_ | fail))); all_goals (conv => whnf)
    subst hB
    exact rnd_end (l' := [_, _, _, _]) .normal rfl rfl hbls hbk
  · rcases hfin with ⟨rfl, hf⟩ | ⟨j, rfl, hpj0, hf⟩
    · refine .inl ⟨rfl, ?_⟩
      (repeat' ((conv => whnf); (first | refine DrawN.mk' [] ?_ | fail))); all_goals (conv => whnf)
      refine EndN.det (by simp [below, belowL, ver_below]) ?_
      rw [hf]
      (repeat' (first | exact trivial | refine And.intro ?_ ?_ | exact Wk.refl _ | exact wk_sl _ _ _ | exact wk_sx _ _ | exact wk_nils | refine wk_agg ?_ | refine wk_tup ?_ | fail)); done
    · obtain ⟨a1, b1, c1, n1, d1, e1, f1, g1, h1, hxy⟩ := hround (l.getD j ver0)
      have hbel := ver_below (H.length + 5) (l.getD j ver0)
      have hbel2 := ver_below H.length (l.getD j ver0)
      have hpj := fun A Y X => hp (l.getD j ver0) A Y X
      rw [hpj0] at hpj
      rw [hf]
      simp only [Option.getD_some, Option.isSome_some]
      rw [hxy] at hpj hbel hbel2 ⊢
      refine .inr ⟨j, [.box 165 [.clo (.func F) [] cs], .box 30 [.int .i64 a1, .int .i64 b1, .int .i64 c1, .sl none n1 d1, .int .i64 e1, .int .i64 f1, .int .i64 g1, .int .u8 h1], .box 4 [.bool true], .box 77 [.sl none l.length (l.flatMap Ver.cells)]], .ret, rfl, rfl, ?_, ?_, ?_⟩
      · intro B hB
        simp only [List.mem_cons, List.not_mem_nil, or_false] at hB
        rcases hB with rfl | rfl | rfl | rfl
        · exact ⟨⟨trivial, trivial, hbc _ (by omega)⟩, trivial⟩
        · exact hbel
        · simp [Blk.below, belowL, below]
        · simp [Blk.below, belowL, below, vers_below]
      · rw [hxy, ← List.append_nil (H ++ _)]
        (repeat' ((conv => whnf); (first | refine DrawN.mk' [] ?_ | fail))); all_goals (conv => whnf)
        refine ⟨none, _, at_loc' [] rfl, set_loc3 rfl, ?_⟩
        generalize hB : Blk.loop LoopState.busy none _ _ = B
        (repeat' ((conv => whnf); (first | refine SetN.mk _ (set_loc3 rfl) ?_ | (refine IfN.id ?_; first | refine IfN.tt rfl ?_ | fail) | (refine CallN.id ?_; first | refine CallN.det _ (hpj _ _ _) ?_ | fail) | (refine PtrN.id ?_; first | refine PtrN.base _ (by (repeat' (first | assumption | exact at_loc' _ rfl | exact at_loc0 rfl | refine at_set (B' := ?_) ?_ | refine at_base' ?_ | fail))) ?_ | fail) | refine DrawN.mk' [] ?_ | fail))); all_goals (conv => whnf)
        subst hB
        rw [← List.append_nil (H ++ ([_, _, _, _] ++ _))]
        refine rnd_end (l' := [_, _, _, _]) .ret rfl rfl ?_ hbk
        intro B hB
        simp only [List.mem_cons, List.not_mem_nil, or_false] at hB
        rcases hB with rfl | rfl | rfl | rfl
        · exact ⟨⟨trivial, trivial, hbc _ (by omega)⟩, trivial⟩
        · exact hbel
        · simp [Blk.below, belowL, below]
        · simp [Blk.below, belowL, below, vers_below]
      · (repeat' ((conv => whnf); (first | refine DrawN.mk' [] ?_ | fail))); all_goals (conv => whnf)
        refine EndN.det (by simpa [below, belowL] using hbel2) ?_
        (repeat' (first | exact trivial | refine And.intro ?_ ?_ | exact Wk.refl _ | exact wk_sl _ _ _ | exact wk_sx _ _ | exact wk_nils | refine wk_agg ?_ | refine wk_tup ?_ | fail)); done
theorem clo66_c (s : Ser) (ex : ByteArray) (p : Nat) (H : Heap) (hp : H[p]? = some (.box 9 [.str ex])) : VDet Try.prog 66 [.agg s.cells, .ptr p 0] H (.bool (eqS s.name ex)) := by
  obtain ⟨nm, vs⟩ := s
  unfold Ser.cells
  simp only
  refine fn_det Try.E0 Try.mx Try.func66 (by kernel_rfl) rfl (Nat.le_of_ble_eq_true rfl) rfl fun hcl hbl => ?_
  (repeat' ((conv => whnf); (first | (refine PtrN.id ?_; first | refine PtrN.base _ (by (repeat' (first | assumption | exact at_loc' _ rfl | exact at_loc0 rfl | refine at_set (B' := ?_) ?_ | refine at_base' ?_ | fail))) ?_ | fail) | refine DrawN.mk' [] ?_ | fail))); all_goals (conv => whnf)
  exact EndN.det trivial (Wk.refl _)
theorem clo73_c (v : Ver) (day : Int) (p : Nat) (H : Heap) (hp : H[p]? = some (.box 3 [.int .i64 day])) : VDet Try.prog 73 [.agg v.cells, .ptr p 0] H (.bool (decide (v.at_ ≤ day))) := by
  obtain ⟨at_, pts, part, att, rty, hnt, cnt, lates⟩ := v
  unfold Ver.cells
  simp only
  refine fn_det Try.E0 Try.mx Try.func73 (by kernel_rfl) rfl (Nat.le_of_ble_eq_true rfl) rfl fun hcl hbl => ?_
  (repeat' ((conv => whnf); (first | (refine PtrN.id ?_; first | refine PtrN.base _ (by (repeat' (first | assumption | exact at_loc' _ rfl | exact at_loc0 rfl | refine at_set (B' := ?_) ?_ | refine at_base' ?_ | fail))) ?_ | fail) | refine DrawN.mk' [] ?_ | fail))); all_goals (conv => whnf)
  exact EndN.det trivial (Wk.refl _)
theorem lastF_some {α : Type} {p : α → Bool} : ∀ {l : List α} {x : α}, lastF p l = some x → x ∈ l ∧ p x = true
  | [], _, h => by cases h
  | y :: l, x, h => by
    unfold lastF at h
    cases hl : lastF p l with
    | some z =>
      rw [hl] at h
      simp only [Option.some.injEq] at h
      subst h
      exact ⟨List.mem_cons_of_mem _ (lastF_some hl).1, (lastF_some hl).2⟩
    | none =>
      rw [hl] at h
      simp only at h
      split at h
      · cases h
        exact ⟨List.mem_cons_self, by assumption⟩
      · cases h
def serF (b : Bk) (ex : ByteArray) : Option Ser := lastF (fun s => eqS s.name ex) b.ser
def verF (l : List Ver) (day : Int) : Option Ver := lastF (fun v => decide (v.at_ ≤ day)) l
def forceF (b : Bk) (ex : ByteArray) (day : Int) : Option Ver := verF ((serF b ex).getD ser0).vers day
theorem series_c (b : Bk) (hl : b.ser.length ≤ 4611686018427387904) (ex : ByteArray) (H : Heap) : VDet Try.prog 38 [.agg b.cells, .str ex] H (.tup [.agg ((serF b ex).getD ser0).cells, .bool (serF b ex).isSome]) := by
  have hbel := ser_below H.length ((serF b ex).getD ser0)
  obtain ⟨x, n, c, hxy⟩ : ∃ x n c, ((serF b ex).getD ser0).cells = [.str x, .sl none n c] := ⟨_, _, _, rfl⟩
  have hls : ∀ (B1 B2 B3 : Blk), B2 = .box 9 [.str ex] → VDet Try.prog 65 [.sl none b.ser.length (b.ser.flatMap Ser.cells), .clo (.func 66) [] [.ptr (H.length + 1) 0]] (H ++ [B1, B2, B3]) (.tup [.agg ((serF b ex).getD ser0).cells, .bool (serF b ex).isSome]) := fun B1 B2 B3 h2 =>
    lastS_c b.ser hl 66 [.ptr (H.length + 1) 0] (fun s => eqS s.name ex) _ fun s A Y X => clo66_c s ex _ _ (at_base' (at_base' (at_base' (at_loc0 (j := 1) (by rw [h2]; rfl)))))
  unfold Bk.cells
  rw [hxy] at hls hbel ⊢
  refine fn_det Try.E0 Try.mx Try.func38 (by kernel_rfl) rfl (Nat.le_of_ble_eq_true rfl) rfl fun hcl hbl => ?_
  (repeat' ((conv => whnf); (first | (refine CallN.id ?_; first | refine CallN.det _ (hls _ _ _ rfl) ?_ | fail) | refine DrawN.mk' [] ?_ | fail))); all_goals (conv => whnf)
  exact EndN.det (by simpa [below, belowL] using hbel) (Wk.refl _)
theorem inForce_c (b : Bk) (hl : b.ser.length ≤ 4611686018427387904) (hv : ∀ s ∈ b.ser, s.vers.length ≤ 4611686018427387904) (ex : ByteArray) (day : Int) (H : Heap) : VDet Try.prog 45 [.agg b.cells, .str ex, .int .i64 day] H (.tup [.agg ((forceF b ex day).getD ver0).sch.cells, .bool (forceF b ex day).isSome]) := by
  have h1 := fun H => series_c b hl ex H
  unfold forceF
  have hvl : ((serF b ex).getD ser0).vers.length ≤ 4611686018427387904 := by
    cases hs : serF b ex with
    | none => exact Nat.zero_le _
    | some s => exact hv s (lastF_some hs).1
  generalize (serF b ex).getD ser0 = ser at *
  obtain ⟨nm, vs⟩ := ser
  simp only at hvl
  have hls : ∀ (B1 B2 B3 B4 : Blk), B2 = .box 3 [.int .i64 day] → VDet Try.prog 72 [.sl none vs.length (vs.flatMap Ver.cells), .clo (.func 73) [] [.ptr (H.length + 1) 0]] (H ++ [B1, B2, B3, B4]) (.tup [.agg ((verF vs day).getD ver0).cells, .bool (verF vs day).isSome]) := fun B1 B2 B3 B4 h2 =>
    lastV_c vs hvl 73 [.ptr (H.length + 1) 0] (fun v => decide (v.at_ ≤ day)) _ fun s A Y X => clo73_c s day _ _ (at_base' (at_base' (at_base' (at_loc0 (j := 1) (by rw [h2]; rfl)))))
  generalize (verF vs day).getD ver0 = vv at *
  obtain ⟨at_, pts, part, att, rty, hnt, cnt, lates⟩ := vv
  unfold Ver.cells Sch.cells at *
  unfold Bk.cells at *
  unfold Ser.cells at h1
  simp only at *
  refine fn_det Try.E0 Try.mx Try.func45 (by kernel_rfl) rfl (Nat.le_of_ble_eq_true rfl) rfl fun hcl hbl => ?_
  (repeat' ((conv => whnf); (first | (refine CallN.id ?_; first | refine CallN.det _ (h1 _) ?_ | refine CallN.det _ (hls _ _ _ _ rfl) ?_ | fail) | refine DrawN.mk' [] ?_ | fail))); all_goals (conv => whnf)
  exact EndN.det (by simp [below, belowL, encP_below]) (Wk.refl _)
end Go.Proofs.Ytgopbbkpcjgihaa
/-! text I38 -/
namespace Go.Proofs.Ytgopbbkpcjgihaa
open Go.Vsi
set_option maxHeartbeats 4000000
attribute [local irreducible] VW VCall VO bits

theorem SegN.nthE {α : Type} {f : α → List AV} {sz : Nat} {l : List α} {i : Int} {k : List AV → Prop} {c : List AV} (d : α) (m : Nat) (hi : i = m) (hm : m < l.length) (hsz : ∀ x, (f x).length = sz) (e : f (l.getD m d) = c) (h : k c) : SegN (l.flatMap f) (i.toNat * sz) k :=
  SegN.nth d m hi hm hsz (e ▸ h)
def okV (l : List Ver) (i : Nat) : Bool := isDay (l.getD i ver0).at_ && ((i == 0 || !decide ((l.getD i ver0).at_ ≤ (l.getD (i - 1) ver0).at_)) && validB (l.getD i ver0).sch)
def versOK (l : List Ver) : Bool := decide (1 ≤ l.length) && (decide (l.length ≤ 20) && (List.range l.length).all (okV l))
theorem rng_no {p : Nat → Bool} {n k : Nat} (hk : k < n) (h : p k = false) : (List.range n).all p = false := by
  rw [List.all_eq_false]
  exact ⟨k, List.mem_range.2 hk, by simp [h]⟩
theorem rng_yes {p : Nat → Bool} {n : Nat} (h : ∀ i, i < n → p i = true) : (List.range n).all p = true := by
  rw [List.all_eq_true]
  exact fun x hx => h x (List.mem_range.1 hx)
theorem ver_ex (v : Ver) : ∃ at_ pts part att rty hnt cnt lates, v = ⟨at_, ⟨pts, part, att, rty, hnt, cnt, lates⟩⟩ := ⟨_, _, _, _, _, _, _, _, rfl⟩
theorem ver_cells {v : Ver} {at_ pts part att rty hnt cnt : Int} {lates : List (Int × Int)} (h : v = ⟨at_, ⟨pts, part, att, rty, hnt, cnt, lates⟩⟩) : v.cells = [.int .i64 at_, .int .i64 pts, .int .i64 part, .sl none lates.length (lates.flatMap encP), .int .i64 att, .int .i64 rty, .int .i64 hnt, .int .u8 cnt] := by
  subst h
  rfl
theorem validVers_c (l : List Ver) (hl : l.length ≤ 4611686018427387904) (H : Heap) : VDet Try.prog 53 [.sl none l.length (l.flatMap Ver.cells)] H (.bool (versOK l)) := by
  refine fn_det Try.E0 Try.mx Try.func53 (by kernel_rfl) rfl (Nat.le_of_ble_eq_true rfl) rfl fun hcl hbl => ?_
  (repeat' ((conv => whnf); (first | (refine IfN.id ?_; first | refine IfN.dec (fun _ => ?_) (fun _ => ?_) | fail) | refine DrawN.mk' [] ?_ | fail))); all_goals (conv => whnf)
  all_goals try (refine EndN.det trivial (Wk.of_eq (congrArg AV.bool ?_)); simp [versOK]; omega)
  refine loop_R Try.E0 Try.mx (σ := Nat) (fun k => k ≤ l.length ∧ ∀ i, i < k → okV l i = true) (fun k => l.length - k) (fun k => [(15, .v (.int .i64 k))]) (fun _ => _) _ 0 rfl hcl [0, 13, 14] rfl ⟨Nat.zero_le _, fun i hi => absurd hi (Nat.not_lt_zero i)⟩ ⟨⟨_, rfl, Wk.refl _⟩, trivial⟩ rfl (fun _ _ => rfl) ?_
  rintro k ⟨hk, hok⟩
  rcases Nat.lt_or_ge k l.length with hlt | hge
  · have e0 : okV l k = (isDay (l.getD k ver0).at_ && ((k == 0 || !decide ((l.getD k ver0).at_ ≤ (l.getD (k - 1) ver0).at_)) && validB (l.getD k ver0).sch)) := rfl
    have hva := fun H => valid_c (l.getD k ver0).sch H
    obtain ⟨at_, pts, part, att, rty, hnt, cnt, lates, hv1⟩ := ver_ex (l.getD k ver0)
    obtain ⟨at2, pts2, part2, att2, rty2, hnt2, cnt2, lates2, hv2⟩ := ver_ex (l.getD (k - 1) ver0)
    rw [hv1] at hva
    rw [hv1, hv2] at e0
    have e1 := ver_cells hv1
    have e2 := ver_cells hv2
    unfold Sch.cells at hva
    simp only at e0 hva
    (repeat' ((conv => whnf); (first | (refine IfN.id ?_; first | refine IfN.not ?_ | refine IfN.dT (by omega) ?_ | refine IfN.dec (fun _ => ?_) (fun _ => ?_) | (refine IfN.mk ?_ ?_ <;> intro _) | fail) | (refine EqN.id ?_; first | (refine EqN.addN _ _ (by first | with_reducible rfl | with_reducible exact cst1 | with_reducible exact cst0 | with_reducible exact cst2 | with_reducible exact cst3 | with_reducible exact cst4 | with_reducible exact cst5 | with_reducible exact cst6 | with_reducible exact cst7 | with_reducible exact cst8 | with_reducible exact cst14 | with_reducible exact cst15 | with_reducible exact cst25 | with_reducible exact cst30 | with_reducible exact cst31 | fail) (by first | with_reducible rfl | with_reducible exact cst1 | with_reducible exact cst0 | with_reducible exact cst2 | with_reducible exact cst3 | with_reducible exact cst4 | with_reducible exact cst5 | with_reducible exact cst6 | with_reducible exact cst7 | with_reducible exact cst8 | with_reducible exact cst14 | with_reducible exact cst15 | with_reducible exact cst25 | with_reducible exact cst30 | with_reducible exact cst31 | fail) ?_ ?_; · (repeat' (first | omega | refine And.intro ?_ ?_ | exact bnd_andl (by omega) | exact bnd_andr (by omega) | refine bnd_or ?_ ?_ | refine bnd_or31 ?_ ?_ | refine bnd_xor ?_ ?_ | refine bnd_xor31 ?_ ?_ | refine bnd_shr ?_ | refine bnd_shl ?_ ?_ | refine bnd_mod ?_ | refine bnd_andl ?_ | fail))) | (refine EqN.subN _ _ (by first | with_reducible rfl | with_reducible exact cst1 | with_reducible exact cst0 | with_reducible exact cst2 | with_reducible exact cst3 | with_reducible exact cst4 | with_reducible exact cst5 | with_reducible exact cst6 | with_reducible exact cst7 | with_reducible exact cst8 | with_reducible exact cst14 | with_reducible exact cst15 | with_reducible exact cst25 | with_reducible exact cst30 | with_reducible exact cst31 | fail) (by first | with_reducible rfl | with_reducible exact cst1 | with_reducible exact cst0 | with_reducible exact cst2 | with_reducible exact cst3 | with_reducible exact cst4 | with_reducible exact cst5 | with_reducible exact cst6 | with_reducible exact cst7 | with_reducible exact cst8 | with_reducible exact cst14 | with_reducible exact cst15 | with_reducible exact cst25 | with_reducible exact cst30 | with_reducible exact cst31 | fail) ?_ ?_; · (repeat' (first | omega | refine And.intro ?_ ?_ | exact bnd_andl (by omega) | exact bnd_andr (by omega) | refine bnd_or ?_ ?_ | refine bnd_or31 ?_ ?_ | refine bnd_xor ?_ ?_ | refine bnd_xor31 ?_ ?_ | refine bnd_shr ?_ | refine bnd_shl ?_ ?_ | refine bnd_mod ?_ | refine bnd_andl ?_ | fail))) | fail) | (refine SideN.mk ?_ ?_; · first | kernel_rfl | omega | exact List.cons_ne_nil _ _ | (simp; done) | (simp; omega) | exact trivial | assumption | fail) | (refine CallD.id ?_; first | refine CallD.det _ (fun _ hq X => isDay_c _ _) ?_ | refine CallD.det _ (fun _ hq X => hva _) ?_ | fail) | refine SegN.nthE ver0 k rfl (by omega) ver_size e1 ?_ | refine SegN.nthE ver0 (k - 1) (by omega) (by omega) ver_size e2 ?_ | refine DrawN.mk' [] ?_ | fail))); all_goals (conv => whnf)
    all_goals first
      | (refine EndN.det trivial (Wk.of_eq (congrArg AV.bool ?_))
         have hno : okV l k = false := by simp_all; try omega
         have := rng_no (n := l.length) (p := okV l) hlt hno
         simp [versOK, this]; done)
      | (have hyes : okV l k = true := by simp_all; try omega
         (refine ⟨⟨k + 1, ⟨by omega, fun i hi => by
          rcases Nat.lt_or_ge i k with h | h
          · exact hok i h
          · have : i = k := by omega
            exact this ▸ hyes⟩, by omega, ?_, .inl ⟨rfl, rfl⟩, rfl, _, rfl, ?_⟩⟩; rotate_left 1; (first | exact .inl rfl | exact .inr ⟨by simp [belowRE, below, belowL, tr, sers_below, vers_below, ents_below, ent_below, ser_below, ver_below, encP_below], by simp [belowH, Blk.below, belowL, below, sers_below, vers_below, ents_below, ent_below, ser_below, ver_below, encP_below]⟩ | fail); (repeat' (first | exact trivial | refine ⟨⟨_, rfl, ?_⟩, ?_⟩ | fail)); all_goals try (first | exact Wk.refl _ | exact Wk.of_eq (congrArg (AV.int _) (by omega)) | fail)))
      | fail
  · (repeat' ((conv => whnf); (first | (refine IfN.id ?_; first | refine IfN.dF (by omega) ?_ | fail) | refine DrawN.mk' [] ?_ | fail))); all_goals (conv => whnf)
    refine EndN.det trivial (Wk.of_eq (congrArg AV.bool ?_))
    have h1 := rng_yes (n := l.length) (p := okV l) fun i hi => hok i (by omega)
    have h2 : decide (1 ≤ l.length) = true := decide_eq_true (by omega)
    have h3 : decide (l.length ≤ 20) = true := decide_eq_true (by omega)
    simp [versOK, h1, h2, h3]
end Go.Proofs.Ytgopbbkpcjgihaa
/-! text J38 -/
namespace Go.Proofs.Ytgopbbkpcjgihaa
open Go.Vsi
set_option maxHeartbeats 4000000

theorem nodup_snoc {α : Type} {l : List α} {e : α} (h : l.Nodup) (he : e ∉ l) : (l ++ [e]).Nodup := by
  rw [List.nodup_append]
  refine ⟨h, by simp, fun a ha b hb => ?_⟩
  simp at hb
  subst hb
  exact fun e => he (e ▸ ha)
theorem nodup_inj {α : Type} {l : List α} (h : l.Nodup) {i j : Nat} (hi : i < l.length) (hj : j < l.length) (e : l[i] = l[j]) : i = j := by
  unfold List.Nodup at h
  rw [List.pairwise_iff_getElem] at h
  rcases Nat.lt_trichotomy i j with q | q | q
  · exact absurd e (h i j hi hj q)
  · exact q
  · exact absurd e.symm (h j i hj hi q)
theorem ba_beq (a b : ByteArray) : (a.toList == b.toList) = decide (a = b) := by
  have h : a.toList = b.toList ↔ a = b := by
    constructor
    · intro h
      rw [ByteArray.toList_eq, ByteArray.toList_eq] at h
      exact ByteArray.ext (Array.toList_inj.1 h)
    · rintro rfl; rfl
  by_cases hab : a = b
  · subst hab; simp
  · rw [decide_eq_false hab, beq_eq_false_iff_ne]
    exact fun e => hab (h.1 e)
theorem eqS_iff {a b : ByteArray} : eqS a b = true ↔ a = b := by
  unfold eqS
  rw [ba_beq, decide_eq_true_eq]
abbrev Ky := ByteArray × ByteArray
def keyC (k : Ky) : List AV := [.str k.1, .str k.2]
def keyOf (e : Ent) : Ky := (e.exe, e.stu)
def eqK (a b : Ky) : Bool := eqS a.1 b.1 && eqS a.2 b.2
theorem eqK_iff {a b : Ky} : eqK a b = true ↔ a = b := by
  unfold eqK
  rw [Bool.and_eq_true, eqS_iff, eqS_iff, Prod.ext_iff]
theorem eqK_refl (a : Ky) : eqK a a = true := eqK_iff.2 rfl
def insK (ks : List Ky) (k : Ky) : List Ky := if ks.any (eqK k) then ks else ks ++ [k]
def keysF (l : List Ent) : List Ky := l.foldl (fun ks e => insK ks (keyOf e)) []
theorem keysF_snoc (l : List Ent) (e : Ent) : keysF (l ++ [e]) = insK (keysF l) (keyOf e) := by
  unfold keysF
  rw [List.foldl_append]
  rfl
theorem any_eqK {k : Ky} {ks : List Ky} : ks.any (eqK k) = true ↔ k ∈ ks := by
  rw [List.any_eq_true]
  constructor
  · rintro ⟨x, h1, h2⟩
    exact eqK_iff.1 h2 ▸ h1
  · exact fun h => ⟨k, h, eqK_refl k⟩
theorem insK_in {ks : List Ky} {k : Ky} (h : k ∈ ks) : insK ks k = ks := by
  unfold insK
  rw [if_pos (any_eqK.2 h)]
theorem insK_new {ks : List Ky} {k : Ky} (h : k ∉ ks) : insK ks k = ks ++ [k] := by
  unfold insK
  rw [if_neg (fun q => h (any_eqK.1 q))]
theorem mem_insK {ks : List Ky} {k x : Ky} : x ∈ insK ks k ↔ x ∈ ks ∨ x = k := by
  by_cases h : k ∈ ks
  · rw [insK_in h]
    exact ⟨.inl, fun q => q.elim id fun e => e ▸ h⟩
  · rw [insK_new h]
    simp
theorem nodup_insK {ks : List Ky} {k : Ky} (h : ks.Nodup) : (insK ks k).Nodup := by
  by_cases hk : k ∈ ks
  · rwa [insK_in hk]
  · rw [insK_new hk]
    exact nodup_snoc h hk
theorem snoc_ind {α : Type} {p : List α → Prop} (h0 : p []) (h1 : ∀ l x, p l → p (l ++ [x])) (l : List α) : p l := by
  have : ∀ m : List α, p m.reverse := by
    intro m
    induction m with
    | nil => exact h0
    | cons x m ih =>
      rw [List.reverse_cons]
      exact h1 _ _ ih
  have h := this l.reverse
  rwa [List.reverse_reverse] at h
theorem keysF_nodup (l : List Ent) : (keysF l).Nodup := by
  induction l using snoc_ind with
  | h0 => exact List.nodup_nil
  | h1 l x ih =>
    rw [keysF_snoc]
    exact nodup_insK ih
theorem mem_keysF {l : List Ent} {k : Ky} : k ∈ keysF l ↔ ∃ e ∈ l, keyOf e = k := by
  induction l using snoc_ind with
  | h0 => simp [keysF]
  | h1 l x ih =>
    rw [keysF_snoc, mem_insK, ih]
    constructor
    · rintro (⟨e, h1, h2⟩ | rfl)
      · exact ⟨e, List.mem_append_left _ h1, h2⟩
      · exact ⟨x, List.mem_append_right _ (List.mem_singleton.2 rfl), rfl⟩
    · rintro ⟨e, h1, h2⟩
      rcases List.mem_append.1 h1 with h | h
      · exact .inl ⟨e, h, h2⟩
      · simp at h
        subst h
        exact .inr h2.symm
def ofK (l : List Ent) (k : Ky) : List Ent := l.filter fun e => eqK (keyOf e) k
def cntK (l : List Ent) (k : Ky) : Nat := (ofK l k).length
theorem ofK_snoc (l : List Ent) (e : Ent) (k : Ky) : ofK (l ++ [e]) k = if keyOf e = k then ofK l k ++ [e] else ofK l k := by
  unfold ofK
  rw [List.filter_append]
  by_cases h : keyOf e = k
  · rw [if_pos h]
    simp [h, eqK_refl]
  · rw [if_neg h]
    have : eqK (keyOf e) k = false := by
      cases hh : eqK (keyOf e) k with
      | false => rfl
      | true => exact absurd (eqK_iff.1 hh) h
    simp [this]
theorem ofK_nil {l : List Ent} {k : Ky} (h : k ∉ keysF l) : ofK l k = [] := by
  unfold ofK
  rw [List.filter_eq_nil_iff]
  intro e he hh
  exact h (mem_keysF.2 ⟨e, he, eqK_iff.1 hh⟩)
theorem cntK_le (l : List Ent) (k : Ky) : cntK l k ≤ l.length := List.length_filter_le _ _

theorem eqVK (x y : Ky) : eqV Try.kn Try.T 20 139 (.agg (keyC x)) (.agg (keyC y)) = some (decide (x = y)) := by
  obtain ⟨a, n⟩ := x
  obtain ⟨b, m⟩ := y
  show some (a.toList == b.toList && (n.toList == m.toList && true)) = _
  rw [ba_beq, ba_beq, Bool.and_true]
  congr 1
  apply Bool.eq_iff_iff.2
  rw [Bool.and_eq_true, decide_eq_true_eq, decide_eq_true_eq, decide_eq_true_eq, Prod.mk.injEq]
theorem mfindK (c : Ky) : ∀ ks : List Ky, (c ∈ ks → ∃ j, j < ks.length ∧ ks[j]? = some c ∧ mfind (eqV Try.kn Try.T 20 139) (.agg (keyC c)) (ks.map fun x => .agg (keyC x)) = some (some j)) ∧ (c ∉ ks → mfind (eqV Try.kn Try.T 20 139) (.agg (keyC c)) (ks.map fun x => .agg (keyC x)) = some none)
  | [] => ⟨fun h => by simp at h, fun _ => rfl⟩
  | d :: ks => by
    have he := eqVK c d
    obtain ⟨h1, h2⟩ := mfindK c ks
    simp only [List.map_cons, mfind, he]
    by_cases hcd : c = d
    · subst hcd
      simp only [decide_true]
      exact ⟨fun _ => ⟨0, by simp, rfl, rfl⟩, fun h => absurd (List.mem_cons_self) h⟩
    · have hb : decide (c = d) = false := by simpa using hcd
      simp only [hb]
      refine ⟨fun h => ?_, fun h => ?_⟩
      · obtain ⟨j, e1, e2, e3⟩ := h1 ((List.mem_cons.1 h).resolve_left hcd)
        exact ⟨j + 1, by simpa using e1, by simpa using e2, by rw [e3]⟩
      · rw [h2 fun q => h (List.mem_cons_of_mem _ q)]
def ksA (ks : List Ky) : List AV := ks.map fun k => .agg (keyC k)
def vsA (ks : List Ky) (f : Ky → AV) : List AV := ks.map f
theorem ksA_below (n : Nat) : ∀ ks : List Ky, belowL n (ksA ks)
  | [] => trivial
  | _ :: ks => ⟨by simp [keyC, below, belowL], ksA_below n ks⟩
theorem vsA_below (n : Nat) (f : Ky → AV) : ∀ ks : List Ky, (∀ k ∈ ks, below n (f k)) → belowL n (vsA ks f)
  | [], _ => trivial
  | k :: ks, h => ⟨h k (List.mem_cons_self), vsA_below n f ks fun x hx => h x (List.mem_cons_of_mem _ hx)⟩
theorem lookK {ks : List Ky} (hnd : ks.Nodup) {j : Nat} {c : Ky} (h : ks[j]? = some c) : mfind (eqV Try.kn Try.T 20 139) (.agg (keyC c)) (ksA ks) = some (some j) := by
  obtain ⟨h1, -⟩ := mfindK c ks
  obtain ⟨j', e1, e2, e3⟩ := h1 (List.mem_of_getElem? h)
  have q1 := (List.getElem?_eq_some_iff.1 e2).2
  have q2 := (List.getElem?_eq_some_iff.1 h).2
  have : j' = j := nodup_inj hnd _ _ (q1.trans q2.symm)
  rw [← this]
  exact e3
theorem entK (ks : List Ky) (hnd : ks.Nodup) (f f' : Ky → AV) (z : AV) (c : Ky) (hf : ∀ k ∈ ks, k ≠ c → f' k = f k) (hz : c ∉ ks → f c = z) :
    ∃ (j : Nat) (vs1 : List AV), MEnt (eqV Try.kn Try.T 20 139) (ksA ks) (vsA ks f) (.agg (keyC c)) z (ksA (insK ks c)) (f c :: .int .i64 j :: vs1) ∧ j < vs1.length ∧ vs1.set j (f' c) = vsA (insK ks c) f' ∧ vs1 = vsA (insK ks c) f ∧ j < ks.length + 1 ∧ ((c ∈ ks ∧ j < ks.length) ∨ (c ∉ ks ∧ j = ks.length)) ∧ (insK ks c)[j]? = some c := by
  obtain ⟨h1, h2⟩ := mfindK c ks
  by_cases hc : c ∈ ks
  · obtain ⟨j, e1, e2, e3⟩ := h1 hc
    rw [insK_in hc]
    refine ⟨j, vsA ks f, .old j _ e3 (by simp [ksA, e2]) (by simp [vsA, e2]), by simpa [vsA] using e1, ?_, rfl, by omega, .inl ⟨hc, e1⟩, e2⟩
    apply List.ext_getElem?
    intro i
    rw [List.getElem?_set]
    unfold vsA
    by_cases hij : j = i
    · subst hij
      rw [if_pos rfl, if_pos (by simpa using e1), List.getElem?_map, e2]
      rfl
    · rw [if_neg hij, List.getElem?_map, List.getElem?_map]
      cases hi : ks[i]? with
      | none => rfl
      | some k =>
        have hk : k ≠ c := by
          rintro rfl
          have hlt := (List.getElem?_eq_some_iff.1 hi).1
          have q1 := (List.getElem?_eq_some_iff.1 e2).2
          have q2 := (List.getElem?_eq_some_iff.1 hi).2
          exact hij (nodup_inj hnd _ _ (q1.trans q2.symm))
        simp [hf k (List.mem_of_getElem? hi) hk]
  · have hn := h2 hc
    rw [insK_new hc]
    have hfc := hz hc
    refine ⟨ks.length, vsA (ks ++ [c]) f, ?_, by simp [vsA], ?_, rfl, by omega, .inr ⟨hc, rfl⟩, by simp⟩
    · have := MEnt.new (vs := vsA ks f) (z := z) hn
      rw [List.length_map] at this
      have e1 : ksA (ks ++ [c]) = (ks.map fun x => AV.agg (keyC x)) ++ [.agg (keyC c)] := by simp [ksA]
      have e2 : vsA (ks ++ [c]) f = vsA ks f ++ [z] := by simp [vsA, hfc]
      rw [e1, e2, hfc]
      exact this
    · unfold vsA
      rw [List.map_append, List.map_append]
      rw [List.set_append_right _ _ (by simp)]
      simp only [List.map_cons, List.map_nil, List.length_map, Nat.sub_self, List.set_cons_zero]
      congr 1
      apply List.map_congr_left
      intro k hk
      exact (hf k hk (fun e => hc (e ▸ hk))).symm
end Go.Proofs.Ytgopbbkpcjgihaa
/-! text K38 -/
namespace Go.Proofs.Ytgopbbkpcjgihaa
open Go.Vsi
set_option maxHeartbeats 4000000
attribute [local irreducible] VW VCall VO bits

def okS (b : Bk) (i : Nat) : Bool := isName (b.ser.getD i ser0).name && ((i == 0 || ltS (b.ser.getD (i - 1) ser0).name (b.ser.getD i ser0).name) && versOK (b.ser.getD i ser0).vers)
def okE (b : Bk) (i : Nat) : Bool :=
  isName (b.ent.getD i ent0).stu && (isDay (b.ent.getD i ent0).day && ((i == 0 || !decide ((b.ent.getD i ent0).day < (b.ent.getD (i - 1) ent0).day)) && ((forceF b (b.ent.getD i ent0).exe (b.ent.getD i ent0).day).isSome &&
    ((gradeF ((forceF b (b.ent.getD i ent0).exe (b.ent.getD i ent0).day).getD ver0).sch (b.ent.getD i ent0).work).2 == 0 && ((b.ent.getD i ent0).work.att == (cntK (b.ent.take (i + 1)) (keyOf (b.ent.getD i ent0)) : Nat))))))
def validF (b : Bk) : Bool := decide (b.ser.length ≤ 40) && (decide (b.ent.length ≤ 2000) && ((List.range b.ser.length).all (okS b) && (List.range b.ent.length).all (okE b)))
structure Bk.Sm (b : Bk) : Prop where
  ser : b.ser.length ≤ 4611686018427387904
  ent : b.ent.length ≤ 4611686018427387904
  vers : ∀ s ∈ b.ser, s.vers.length ≤ 4611686018427387904
theorem ser_ex (s : Ser) : ∃ nm vs, s = ⟨nm, vs⟩ := ⟨_, _, rfl⟩
theorem ser_cells {s : Ser} {nm : ByteArray} {vs : List Ver} (h : s = ⟨nm, vs⟩) : s.cells = [.str nm, .sl none vs.length (vs.flatMap Ver.cells)] := by
  subst h
  rfl
theorem ent_ex (e : Ent) : ∃ stu exe day a b c d, e = ⟨stu, exe, day, ⟨a, b, c, d⟩⟩ := ⟨_, _, _, _, _, _, _, rfl⟩
theorem ent_cells {e : Ent} {stu exe : ByteArray} {day a b c d : Int} (h : e = ⟨stu, exe, day, ⟨a, b, c, d⟩⟩) : e.cells = [.str stu, .str exe, .int .i64 day, .int .i64 a, .int .i64 b, .int .i64 c, .int .i64 d] := by
  subst h
  rfl
theorem getD_mem {α : Type} {l : List α} {i : Nat} (d : α) (h : i < l.length) : l.getD i d ∈ l := by
  rw [List.getD_eq_getElem?_getD, List.getElem?_eq_getElem h]
  exact List.getElem_mem h
def cntA (l : List Ent) (k : Ky) : AV := .int .i64 (cntK l k : Nat)
theorem cntA_below (n : Nat) (l : List Ent) (ks : List Ky) : belowL n (vsA ks (cntA l)) := vsA_below n _ ks fun _ _ => trivial
theorem take_snoc {α : Type} (l : List α) (d : α) (k : Nat) (h : k < l.length) : l.take (k + 1) = l.take k ++ [l.getD k d] := by
  rw [List.take_add_one]
  simp [List.getElem?_eq_getElem h]
theorem validBk_c (b : Bk) (hb : b.Sm) (H : Heap) : VDet Try.prog 19 [.agg b.cells] H (.bool (validF b)) := by
  have hif := fun ex day H => inForce_c b hb.ser hb.vers ex day H
  obtain ⟨hs1, hs2, hs3⟩ := hb
  have hcb : b.cells = [.sl none b.ser.length (b.ser.flatMap Ser.cells), .sl none b.ent.length (b.ent.flatMap Ent.cells)] := rfl
  rw [hcb] at hif ⊢
  refine fn_det Try.E0 Try.mx Try.func19 (by kernel_rfl) rfl (Nat.le_of_ble_eq_true rfl) rfl fun hcl hbl => ?_
  (repeat' ((conv => whnf); (first | (refine IfN.id ?_; first | refine IfN.dec (fun _ => ?_) (fun _ => ?_) | fail) | refine DrawN.mk' [] ?_ | fail))); all_goals (conv => whnf)
  · refine EndN.det trivial (Wk.of_eq (congrArg AV.bool ?_))
    have : decide (b.ser.length ≤ 40) = false := decide_eq_false (by omega)
    simp [validF, this]
  · refine EndN.det trivial (Wk.of_eq (congrArg AV.bool ?_))
    have : decide (b.ent.length ≤ 2000) = false := decide_eq_false (by omega)
    simp [validF, this]
  refine loop_R Try.E0 Try.mx (σ := Nat) (fun k => k ≤ b.ser.length ∧ ∀ i, i < k → okS b i = true) (fun k => b.ser.length - k) (fun k => [(26, .v (.int .i64 k))]) (fun _ => _) _ 0 rfl hcl [1, 24, 25] rfl ⟨Nat.zero_le _, fun i hi => absurd hi (Nat.not_lt_zero i)⟩ ⟨⟨_, rfl, Wk.refl _⟩, trivial⟩ rfl (fun _ _ => rfl) ?_
  rintro k ⟨hk, hok⟩
  rcases Nat.lt_or_ge k b.ser.length with hlt | hge
  · have e0 : okS b k = (isName (b.ser.getD k ser0).name && ((k == 0 || ltS (b.ser.getD (k - 1) ser0).name (b.ser.getD k ser0).name) && versOK (b.ser.getD k ser0).vers)) := rfl
    have hva := fun H => validVers_c (b.ser.getD k ser0).vers (hs3 _ (getD_mem _ hlt)) H
    obtain ⟨nm, vs, hv1⟩ := ser_ex (b.ser.getD k ser0)
    obtain ⟨nm2, vs2, hv2⟩ := ser_ex (b.ser.getD (k - 1) ser0)
    rw [hv1] at hva
    rw [hv1, hv2] at e0
    have e1 := ser_cells hv1
    have e2 := ser_cells hv2
    simp only at e0 hva
    unfold ltS at e0
    (repeat' ((conv => whnf); (first | (refine IfN.id ?_; first | refine IfN.not ?_ | refine IfN.dT (by omega) ?_ | refine IfN.dec (fun _ => ?_) (fun _ => ?_) | (refine IfN.mk ?_ ?_ <;> intro _) | fail) | (refine EqN.id ?_; first | (refine EqN.addN _ _ (by first | with_reducible rfl | with_reducible exact cst1 | with_reducible exact cst0 | with_reducible exact cst2 | with_reducible exact cst3 | with_reducible exact cst4 | with_reducible exact cst5 | with_reducible exact cst6 | with_reducible exact cst7 | with_reducible exact cst8 | with_reducible exact cst14 | with_reducible exact cst15 | with_reducible exact cst25 | with_reducible exact cst30 | with_reducible exact cst31 | fail) (by first | with_reducible rfl | with_reducible exact cst1 | with_reducible exact cst0 | with_reducible exact cst2 | with_reducible exact cst3 | with_reducible exact cst4 | with_reducible exact cst5 | with_reducible exact cst6 | with_reducible exact cst7 | with_reducible exact cst8 | with_reducible exact cst14 | with_reducible exact cst15 | with_reducible exact cst25 | with_reducible exact cst30 | with_reducible exact cst31 | fail) ?_ ?_; · (repeat' (first | omega | refine And.intro ?_ ?_ | exact bnd_andl (by omega) | exact bnd_andr (by omega) | refine bnd_or ?_ ?_ | refine bnd_or31 ?_ ?_ | refine bnd_xor ?_ ?_ | refine bnd_xor31 ?_ ?_ | refine bnd_shr ?_ | refine bnd_shl ?_ ?_ | refine bnd_mod ?_ | refine bnd_andl ?_ | fail))) | (refine EqN.subN _ _ (by first | with_reducible rfl | with_reducible exact cst1 | with_reducible exact cst0 | with_reducible exact cst2 | with_reducible exact cst3 | with_reducible exact cst4 | with_reducible exact cst5 | with_reducible exact cst6 | with_reducible exact cst7 | with_reducible exact cst8 | with_reducible exact cst14 | with_reducible exact cst15 | with_reducible exact cst25 | with_reducible exact cst30 | with_reducible exact cst31 | fail) (by first | with_reducible rfl | with_reducible exact cst1 | with_reducible exact cst0 | with_reducible exact cst2 | with_reducible exact cst3 | with_reducible exact cst4 | with_reducible exact cst5 | with_reducible exact cst6 | with_reducible exact cst7 | with_reducible exact cst8 | with_reducible exact cst14 | with_reducible exact cst15 | with_reducible exact cst25 | with_reducible exact cst30 | with_reducible exact cst31 | fail) ?_ ?_; · (repeat' (first | omega | refine And.intro ?_ ?_ | exact bnd_andl (by omega) | exact bnd_andr (by omega) | refine bnd_or ?_ ?_ | refine bnd_or31 ?_ ?_ | refine bnd_xor ?_ ?_ | refine bnd_xor31 ?_ ?_ | refine bnd_shr ?_ | refine bnd_shl ?_ ?_ | refine bnd_mod ?_ | refine bnd_andl ?_ | fail))) | fail) | (refine SideN.mk ?_ ?_; · first | kernel_rfl | omega | exact List.cons_ne_nil _ _ | (simp; done) | (simp; omega) | exact trivial | assumption | fail) | (refine CallN.id ?_; first | refine CallN.det _ (hva _) ?_ | fail) | (refine CallD.id ?_; first | refine CallD.det _ (fun _ hq X => isName_c _ _) ?_ | fail) | refine SegN.nthE ser0 k rfl (by omega) ser_size e1 ?_ | refine SegN.nthE ser0 (k - 1) (by omega) (by omega) ser_size e2 ?_ | refine DrawN.mk' [] ?_ | fail))); all_goals (conv => whnf)
    all_goals first
      | (refine EndN.det trivial (Wk.of_eq (congrArg AV.bool ?_))
         have hno : okS b k = false := by simp_all; try omega
         have := rng_no (n := b.ser.length) (p := okS b) hlt hno
         simp [validF, this]; done)
      | (have hyes : okS b k = true := by simp_all; try omega
         (refine ⟨⟨k + 1, ⟨by omega, fun i hi => by
          rcases Nat.lt_or_ge i k with h | h
          · exact hok i h
          · have : i = k := by omega
            exact this ▸ hyes⟩, by omega, ?_, .inl ⟨rfl, rfl⟩, rfl, _, rfl, ?_⟩⟩; rotate_left 1; (first | exact .inl rfl | exact .inr ⟨by simp [belowRE, below, belowL, tr, sers_below, vers_below, ents_below, ent_below, ser_below, ver_below, encP_below, ksA_below, cntA_below], by simp [belowH, Blk.below, belowL, below, sers_below, vers_below, ents_below, ent_below, ser_below, ver_below, encP_below, ksA_below, cntA_below]⟩ | fail); (repeat' (first | exact trivial | refine ⟨⟨_, rfl, ?_⟩, ?_⟩ | fail)); all_goals try (first | exact Wk.refl _ | exact Wk.of_eq (congrArg (AV.int _) (by omega)) | fail)))
      | fail
  have h1 := rng_yes (n := b.ser.length) (p := okS b) fun i hi => hok i (by omega)
  have hkk : k = b.ser.length := by omega
  subst hkk
  clear hok
  (repeat' ((conv => whnf); (first | (refine IfN.id ?_; first | refine IfN.dF (by omega) ?_ | fail) | refine DrawN.mk' [] ?_ | fail))); all_goals (conv => whnf)
  refine loop_R Try.E0 Try.mx (σ := Nat) (fun k => k ≤ b.ent.length ∧ ∀ i, i < k → okE b i = true) (fun k => b.ent.length - k) (fun k => [(60, .v (.int .i64 k))]) (fun k => [.box 25 [.sl none b.ser.length (b.ser.flatMap Ser.cells), .sl none b.ent.length (b.ent.flatMap Ent.cells)], .mp (ksA (keysF (b.ent.take k))) (vsA (keysF (b.ent.take k)) (cntA (b.ent.take k)))]) _ 0 rfl hcl [1, 5, 58, 59] rfl ⟨Nat.zero_le _, fun i hi => absurd hi (Nat.not_lt_zero i)⟩ ⟨⟨_, rfl, Wk.refl _⟩, trivial⟩ rfl (fun _ _ => rfl) ?_
  rintro k ⟨hk, hok⟩
  rcases Nat.lt_or_ge k b.ent.length with hlt | hge
  · have e0 : okE b k = (isName (b.ent.getD k ent0).stu && (isDay (b.ent.getD k ent0).day && ((k == 0 || !decide ((b.ent.getD k ent0).day < (b.ent.getD (k - 1) ent0).day)) && ((forceF b (b.ent.getD k ent0).exe (b.ent.getD k ent0).day).isSome &&
        ((gradeF ((forceF b (b.ent.getD k ent0).exe (b.ent.getD k ent0).day).getD ver0).sch (b.ent.getD k ent0).work).2 == 0 && ((b.ent.getD k ent0).work.att == (cntK (b.ent.take (k + 1)) (keyOf (b.ent.getD k ent0)) : Nat))))))) := rfl
    have hts := take_snoc b.ent ent0 k hlt
    have hgr := fun H => grade_c ((forceF b (b.ent.getD k ent0).exe (b.ent.getD k ent0).day).getD ver0).sch (b.ent.getD k ent0).work H
    have hif := fun H => hif (b.ent.getD k ent0).exe (b.ent.getD k ent0).day H
    have hent := entK (keysF (b.ent.take k)) (keysF_nodup _) (cntA (b.ent.take k)) (cntA (b.ent.take (k + 1))) (.int .i64 0) (keyOf (b.ent.getD k ent0)) (fun q _ hq => by
      unfold cntA cntK
      rw [hts, ofK_snoc, if_neg (Ne.symm hq)]) (fun hq => by
      unfold cntA cntK
      rw [ofK_nil hq]
      rfl)
    have hcnt : cntK (b.ent.take (k + 1)) (keyOf (b.ent.getD k ent0)) = cntK (b.ent.take k) (keyOf (b.ent.getD k ent0)) + 1 := by
      unfold cntK
      rw [hts, ofK_snoc, if_pos rfl, List.length_append]
      rfl
    have hcl2 := cntK_le (b.ent.take k) (keyOf (b.ent.getD k ent0))
    rw [List.length_take] at hcl2
    have hkf : insK (keysF (b.ent.take k)) (keyOf (b.ent.getD k ent0)) = keysF (b.ent.take (k + 1)) := by
      rw [hts, keysF_snoc]
    obtain ⟨j, vs1, q1, q2, q3, -, -, -, q4⟩ := hent
    obtain ⟨stu, exe, day, a1, a2, a3, a4, hv1⟩ := ent_ex (b.ent.getD k ent0)
    obtain ⟨stu2, exe2, day2, b1, b2, b3, b4, hv2⟩ := ent_ex (b.ent.getD (k - 1) ent0)
    rw [hkf] at q1 q3 q4
    rw [hv1] at hif hgr q1 q3 q4 hcnt hcl2
    rw [hv1, hv2] at e0
    have e1 := ent_cells hv1
    have e2 := ent_cells hv2
    simp only [keyOf] at e0 hif hgr q1 q3 q4 hcnt hcl2
    have hlk := lookK (keysF_nodup (b.ent.take (k + 1))) (c := (exe, stu)) (j := j)
    have hvk : ∀ (ks : List Ky), ks[j]? = some (exe, stu) → (vsA ks (cntA (b.ent.take (k + 1))))[j]? = some (.int .i64 (cntK (b.ent.take (k + 1)) (exe, stu) : Nat)) := fun ks h => by simp [vsA, h, cntA]
    have hsk : eqV Try.kn Try.T 20 139 (.agg [.str exe, .str stu]) (.agg [.str exe, .str stu]) = some true := by
      exact (eqVK (exe, stu) (exe, stu)).trans (by simp)
    unfold cntA at q1 q3
    have hlk := hlk q4
    have hvk := hvk _ q4
    rw [hcnt] at e0 q3 hvk
    generalize cntK (b.ent.take k) (exe, stu) = c0 at *
    have hw : IntKind.i64.wrap ((c0 : Nat) + 1 : Int) = ((c0 + 1 : Nat) : Int) := by
      rw [IntKind.wrap_i64]
      omega
    generalize forceF b exe day = fo at *
    obtain ⟨f1, f2, f3, f4, f5, f6, f7, f8, hv3⟩ := ver_ex (fo.getD ver0)
    rw [hv3] at hgr hif e0
    simp only at hgr hif e0
    generalize hgf : gradeF ⟨f2, f3, f4, f5, f6, f7, f8⟩ ⟨a1, a2, a3, a4⟩ = gf at *
    obtain ⟨⟨m1, m2, m3, m4, m5⟩, er⟩ := gf
    unfold Sch.cells at hgr hif
    unfold Wrk.cells Mrk.cells at hgr
    simp only at hgr hif e0
    generalize hks1 : ksA (keysF (b.ent.take (k + 1))) = ks1 at *
    unfold keyC at q1 hlk
    simp only at q1 hlk
    rw [show (fun k_1 => AV.int IntKind.i64 ↑(cntK (b.ent.take (k + 1)) k_1)) = cntA (b.ent.take (k + 1)) from rfl] at q3
    generalize hV : vsA (keysF (b.ent.take (k + 1))) (cntA (b.ent.take (k + 1))) = V at *
    (repeat' ((conv => whnf); (first | (refine DrawN.mp 2 [] ?_; (conv => whnf); refine SideN.mk (by kernel_rfl) ?_; refine MpE.mk rfl rfl rfl rfl rfl rfl rfl rfl rfl rfl rfl rfl rfl rfl (by kernel_rfl) rfl rfl rfl rfl rfl rfl rfl hsk q1 q2 (.loc 1 rfl rfl rfl) (.eqv hw (.refl _)) (.refl _) (.loc 1 rfl rfl rfl) ?_; rw [q3]) | (refine IfN.id ?_; first | refine IfN.not ?_ | refine IfN.dT (by omega) ?_ | refine IfN.dec (fun _ => ?_) (fun _ => ?_) | (refine IfN.mk ?_ ?_ <;> intro _) | fail) | (refine EqN.id ?_; first | (refine EqN.addN _ _ (by first | with_reducible rfl | with_reducible exact cst1 | with_reducible exact cst0 | with_reducible exact cst2 | with_reducible exact cst3 | with_reducible exact cst4 | with_reducible exact cst5 | with_reducible exact cst6 | with_reducible exact cst7 | with_reducible exact cst8 | with_reducible exact cst14 | with_reducible exact cst15 | with_reducible exact cst25 | with_reducible exact cst30 | with_reducible exact cst31 | fail) (by first | with_reducible rfl | with_reducible exact cst1 | with_reducible exact cst0 | with_reducible exact cst2 | with_reducible exact cst3 | with_reducible exact cst4 | with_reducible exact cst5 | with_reducible exact cst6 | with_reducible exact cst7 | with_reducible exact cst8 | with_reducible exact cst14 | with_reducible exact cst15 | with_reducible exact cst25 | with_reducible exact cst30 | with_reducible exact cst31 | fail) ?_ ?_; · (repeat' (first | omega | refine And.intro ?_ ?_ | exact bnd_andl (by omega) | exact bnd_andr (by omega) | refine bnd_or ?_ ?_ | refine bnd_or31 ?_ ?_ | refine bnd_xor ?_ ?_ | refine bnd_xor31 ?_ ?_ | refine bnd_shr ?_ | refine bnd_shl ?_ ?_ | refine bnd_mod ?_ | refine bnd_andl ?_ | fail))) | (refine EqN.subN _ _ (by first | with_reducible rfl | with_reducible exact cst1 | with_reducible exact cst0 | with_reducible exact cst2 | with_reducible exact cst3 | with_reducible exact cst4 | with_reducible exact cst5 | with_reducible exact cst6 | with_reducible exact cst7 | with_reducible exact cst8 | with_reducible exact cst14 | with_reducible exact cst15 | with_reducible exact cst25 | with_reducible exact cst30 | with_reducible exact cst31 | fail) (by first | with_reducible rfl | with_reducible exact cst1 | with_reducible exact cst0 | with_reducible exact cst2 | with_reducible exact cst3 | with_reducible exact cst4 | with_reducible exact cst5 | with_reducible exact cst6 | with_reducible exact cst7 | with_reducible exact cst8 | with_reducible exact cst14 | with_reducible exact cst15 | with_reducible exact cst25 | with_reducible exact cst30 | with_reducible exact cst31 | fail) ?_ ?_; · (repeat' (first | omega | refine And.intro ?_ ?_ | exact bnd_andl (by omega) | exact bnd_andr (by omega) | refine bnd_or ?_ ?_ | refine bnd_or31 ?_ ?_ | refine bnd_xor ?_ ?_ | refine bnd_xor31 ?_ ?_ | refine bnd_shr ?_ | refine bnd_shl ?_ ?_ | refine bnd_mod ?_ | refine bnd_andl ?_ | fail))) | fail) | (refine SideN.mk ?_ ?_; · first | kernel_rfl | omega | exact List.cons_ne_nil _ _ | (simp; done) | (simp; omega) | exact trivial | assumption | fail) | (refine CallN.id ?_; first | refine CallN.det _ (hif _) ?_ | refine CallN.det _ (hgr _) ?_ | fail) | (refine CallD.id ?_; first | refine CallD.det _ (fun _ hq X => isName_c _ _) ?_ | refine CallD.det _ (fun _ hq X => isDay_c _ _) ?_ | fail) | refine SegN.nthE ent0 k rfl (by omega) ent_size e1 ?_ | refine SegN.nthE ent0 (k - 1) (by omega) (by omega) ent_size e2 ?_ | refine RelN.mk [.int .i64 ((c0 + 1 : Nat) : Int)] [] ⟨⟨_, hsk⟩, j, hlk, hvk⟩ ?_ | (refine PtrN.id ?_; first | refine PtrN.loc _ rfl ?_ | fail) | refine DrawN.mk' [] ?_ | fail))); all_goals (conv => whnf)
    all_goals first
      | (refine EndN.det trivial (Wk.of_eq (congrArg AV.bool ?_))
         have hno : okE b k = false := by simp_all; try omega
         have := rng_no (n := b.ent.length) (p := okE b) hlt hno
         simp [validF, this]; done)
      | (have hyes : okE b k = true := by simp_all; try omega
         subst hks1 hV
         (refine ⟨⟨k + 1, ⟨by omega, fun i hi => by
          rcases Nat.lt_or_ge i k with h | h
          · exact hok i h
          · have : i = k := by omega
            exact this ▸ hyes⟩, by omega, ?_, .inl ⟨rfl, rfl⟩, rfl, _, rfl, ?_⟩⟩; rotate_left 1; (first | exact .inl rfl | exact .inr ⟨by simp [belowRE, below, belowL, tr, sers_below, vers_below, ents_below, ent_below, ser_below, ver_below, encP_below, ksA_below, cntA_below], by simp [belowH, Blk.below, belowL, below, sers_below, vers_below, ents_below, ent_below, ser_below, ver_below, encP_below, ksA_below, cntA_below]⟩ | fail); (repeat' (first | exact trivial | refine ⟨⟨_, rfl, ?_⟩, ?_⟩ | fail)); all_goals try (first | exact Wk.refl _ | exact Wk.of_eq (congrArg (AV.int _) (by omega)) | fail)))
      | fail
  · (repeat' ((conv => whnf); (first | (refine IfN.id ?_; first | refine IfN.dF (by omega) ?_ | fail) | refine DrawN.mk' [] ?_ | fail))); all_goals (conv => whnf)
    refine EndN.det trivial (Wk.of_eq (congrArg AV.bool ?_))
    have h2 := rng_yes (n := b.ent.length) (p := okE b) fun i hi => hok i (by omega)
    have h3 : decide (b.ser.length ≤ 40) = true := decide_eq_true (by omega)
    have h4 : decide (b.ent.length ≤ 2000) = true := decide_eq_true (by omega)
    simp [validF, h1, h2, h3, h4]
end Go.Proofs.Ytgopbbkpcjgihaa
/-! text L38 -/
namespace Go.Proofs.Ytgopbbkpcjgihaa
open Go.Vsi
set_option maxHeartbeats 4000000
attribute [local irreducible] VW VCall VO bits

def selF (l : List Ent) (d : Int) : List Ent := l.filter fun e => decide (e.day ≤ d)
theorem selF_snoc (l : List Ent) (e : Ent) (d : Int) : selF (l ++ [e]) d = if e.day ≤ d then selF l d ++ [e] else selF l d := by
  unfold selF
  rw [List.filter_append]
  by_cases h : e.day ≤ d
  · simp [h]
  · simp [h]
def wrkC (l : List Ent) (k : Ky) : List AV := ((ofK l k).map Ent.work).flatMap Wrk.cells
theorem wrk_size (w : Wrk) : w.cells.length = 4 := rfl
theorem wrk_below (n : Nat) (w : Wrk) : belowL n w.cells := by simp [Wrk.cells, belowL, below]
theorem wrkC_below (n : Nat) (l : List Ent) (k : Ky) : belowL n (wrkC l k) := belowL_flat _ (wrk_below n)
theorem wrkC_len (l : List Ent) (k : Ky) : (wrkC l k).length = cntK l k * 4 := by
  unfold wrkC cntK
  rw [flat_length wrk_size, List.length_map]
theorem wrkC_snoc (l : List Ent) (e : Ent) : wrkC (l ++ [e]) (keyOf e) = wrkC l (keyOf e) ++ e.work.cells := by
  unfold wrkC
  rw [ofK_snoc, if_pos rfl]
  simp
theorem wrkC_other (l : List Ent) (e : Ent) {k : Ky} (h : k ≠ keyOf e) : wrkC (l ++ [e]) k = wrkC l k := by
  unfold wrkC
  rw [ofK_snoc, if_neg (Ne.symm h)]
theorem cntK_snoc (l : List Ent) (e : Ent) : cntK (l ++ [e]) (keyOf e) = cntK l (keyOf e) + 1 := by
  unfold cntK
  rw [ofK_snoc, if_pos rfl]
  simp
theorem cntK_other (l : List Ent) (e : Ent) {k : Ky} (h : k ≠ keyOf e) : cntK (l ++ [e]) k = cntK l k := by
  unfold cntK
  rw [ofK_snoc, if_neg (Ne.symm h)]
def wvA (n0 : Nat) (pos : Ky → Nat) (l : List Ent) (k : Ky) : AV := if (keysF l).any (eqK k) then .sl (some (n0 + 2 + pos k)) (cntK l k) (wrkC l k) else .nils
def wfA (l : List Ent) (k : Ky) : AV := .sl none (cntK l k) (wrkC l k)
theorem wvA_in {n0 : Nat} {pos : Ky → Nat} {l : List Ent} {k : Ky} (h : k ∈ keysF l) : wvA n0 pos l k = .sl (some (n0 + 2 + pos k)) (cntK l k) (wrkC l k) := by
  unfold wvA
  rw [if_pos (any_eqK.2 h)]
theorem wvA_new {n0 : Nat} {pos : Ky → Nat} {l : List Ent} {k : Ky} (h : k ∉ keysF l) : wvA n0 pos l k = .nils := by
  unfold wvA
  rw [if_neg (fun q => h (any_eqK.1 q))]
theorem belowH_mem {n : Nat} : ∀ {l : Heap}, (∀ B ∈ l, B.below n) → belowH n l
  | [], _ => trivial
  | B :: l, h => ⟨h B List.mem_cons_self, belowH_mem fun C hC => h C (List.mem_cons_of_mem _ hC)⟩
theorem mem_belowH {n : Nat} : ∀ {l : Heap}, belowH n l → ∀ B ∈ l, B.below n
  | [], _, _, h => by cases h
  | B :: l, h, C, hC => by
    rcases List.mem_cons.1 hC with rfl | h2
    · exact h.1
    · exact mem_belowH h.2 C h2
theorem mem_set {α : Type} {l : List α} {i : Nat} {a b : α} (h : a ∈ l.set i b) : a ∈ l ∨ a = b := by
  rcases List.mem_or_eq_of_mem_set h with h | h
  · exact .inl h
  · exact .inr h
theorem set3 (H X : Heap) (a b M T M2 : Blk) (p : Nat) : (((H ++ ([a, b] ++ X)).set (H.length + 1) M).set (H.length + 2 + p) T).set (H.length + 1) M2 = H ++ ([a, M2] ++ X.set p T) := by
  rw [set_loc', show H.length + 2 + p = H.length + (2 + p) by omega, set_loc', set_loc', show 2 + p = (p + 1) + 1 by omega]
  rfl
theorem set2 (H X : Heap) (a b M M2 : Blk) : ((H ++ ([a, b] ++ X)).set (H.length + 1) M).set (H.length + 1) M2 = H ++ ([a, M2] ++ X) := by
  rw [set_loc', set_loc']
  rfl
structure WkS where
  k : Nat
  X : Heap
  pos : Ky → Nat
def WkS.L (b : Bk) (d : Int) (n0 : Nat) (s : WkS) : Heap := [.box 25 b.cells, .mp (ksA (keysF (selF (b.ent.take s.k) d))) (vsA (keysF (selF (b.ent.take s.k) d)) (wvA n0 s.pos (selF (b.ent.take s.k) d)))] ++ s.X
structure WkS.Ok (b : Bk) (d : Int) (n0 : Nat) (s : WkS) : Prop where
  le : s.k ≤ b.ent.length
  low : belowH (n0 + 2 + s.X.length) s.X
  tok : ∀ k ∈ keysF (selF (b.ent.take s.k) d), s.X[s.pos k]? = some (.tok 32 4 (cntK (selF (b.ent.take s.k) d) k * 4))
  inj : ∀ k1 ∈ keysF (selF (b.ent.take s.k) d), ∀ k2 ∈ keysF (selF (b.ent.take s.k) d), s.pos k1 = s.pos k2 → k1 = k2
theorem vers_mem_below {l : List Blk} {n m : Nat} (h : belowH n l) (hnm : n ≤ m) : belowH m l := belowH_mem fun B hB => Blk.below_mono hnm (mem_belowH h B hB)
theorem WkS.Ok.below {b : Bk} {d : Int} {n0 : Nat} {s : WkS} (h : s.Ok b d n0) : belowH (n0 + (s.L b d n0).length) (s.L b d n0) := by
  have hl : (s.L b d n0).length = 2 + s.X.length := by simp [WkS.L]; omega
  rw [hl]
  refine ⟨?_, ⟨ksA_below _ _, vsA_below _ _ _ fun k hk => ?_⟩, ?_⟩
  · simp [Blk.below, belowL, Vsi.below, Bk.cells, sers_below, ents_below]
  · rw [wvA_in hk]
    refine ⟨fun t e => ?_, wrkC_below _ _ _⟩
    cases e
    have := (List.getElem?_eq_some_iff.1 (h.tok k hk)).1
    omega
  · exact vers_mem_below h.low (by omega)
theorem frz_wv (n0 : Nat) (loc : Heap) (pos : Ky → Nat) (l : List Ent) : ∀ ks : List Ky, (∀ k ∈ ks, k ∈ keysF l) → FrzL n0 loc (vsA ks (wvA n0 pos l)) (vsA ks (wfA l))
  | [], _ => .nil
  | k :: ks, h => .cons (by
      show Frz n0 loc (wvA n0 pos l k) _
      rw [wvA_in (h k List.mem_cons_self)]
      exact .sl (FrzL.refl _)) (frz_wv n0 loc pos l ks fun q hq => h q (List.mem_cons_of_mem _ hq))
theorem works_c (b : Bk) (hb : b.Sm) (he : b.ent.length ≤ 1000000) (d : Int) (H : Heap) : VDet Try.prog 54 [.agg b.cells, .int .i64 d] H (.rmp (ksA (keysF (selF b.ent d))) (vsA (keysF (selF b.ent d)) (wfA (selF b.ent d)))) := by
  have hcb : b.cells = [.sl none b.ser.length (b.ser.flatMap Ser.cells), .sl none b.ent.length (b.ent.flatMap Ent.cells)] := rfl
  have hL0 : ([.box 25 [.sl none b.ser.length (b.ser.flatMap Ser.cells), .sl none b.ent.length (b.ent.flatMap Ent.cells)], .mp [] []] : Heap) = (⟨0, [], fun _ => 0⟩ : WkS).L b d H.length := rfl
  refine fn_det Try.E0 Try.mx Try.func54 (by kernel_rfl) rfl (Nat.le_of_ble_eq_true rfl) rfl fun hcl hbl => ?_
  rw [hcb]
  (repeat' ((conv => whnf); (first | refine DrawN.mk' [] ?_ | fail))); all_goals (conv => whnf)
  refine loop_X Try.E0 Try.mx (σ := WkS) (WkS.Ok b d H.length) (fun s => b.ent.length - s.k) (fun s => [(13, .v (.int .i64 s.k))]) (WkS.L b d H.length) _ ⟨0, [], fun _ => 0⟩ rfl hcl [1, 5, 11, 12] rfl ⟨Nat.zero_le _, trivial, (fun k hk => by simp [selF, keysF] at hk), (fun k hk => by simp [selF, keysF] at hk)⟩ ⟨⟨_, rfl, Wk.refl _⟩, trivial⟩ hL0 (fun s _ => by simp [WkS.L]) ?_
  rintro ⟨k, X, pos⟩ ⟨hk, hlow, htok, hinj⟩
  simp only at hk hlow htok hinj
  have hpk : (((⟨k, X, pos⟩ : WkS).k : Nat) : Int) = (k : Int) := rfl
  rcases Nat.lt_or_ge k b.ent.length with hlt | hge
  · have hts := take_snoc b.ent ent0 k hlt
    obtain ⟨stu, exe, day, a1, a2, a3, a4, hv1⟩ := ent_ex (b.ent.getD k ent0)
    have e1 := ent_cells hv1
    rw [hv1] at hts
    by_cases hd : day ≤ d
    · have hsel : selF (b.ent.take (k + 1)) d = selF (b.ent.take k) d ++ [⟨stu, exe, day, ⟨a1, a2, a3, a4⟩⟩] := by
        rw [hts, selF_snoc, if_pos hd]
      have hkk : keysF (selF (b.ent.take (k + 1)) d) = insK (keysF (selF (b.ent.take k) d)) (exe, stu) := by
        rw [hsel, keysF_snoc]
        rfl
      have hcn : cntK (selF (b.ent.take k) d) (exe, stu) ≤ 1000000 := by
        have h1 := cntK_le (selF (b.ent.take k) d) (exe, stu)
        have h2 : (selF (b.ent.take k) d).length ≤ (b.ent.take k).length := List.length_filter_le _ _
        rw [List.length_take] at h2
        omega
      have hnd := keysF_nodup (selF (b.ent.take k) d)
      have hcs : cntK (selF (b.ent.take (k + 1)) d) (exe, stu) = cntK (selF (b.ent.take k) d) (exe, stu) + 1 := by
        rw [hsel]
        exact cntK_snoc _ _
      have hws : wrkC (selF (b.ent.take (k + 1)) d) (exe, stu) = wrkC (selF (b.ent.take k) d) (exe, stu) ++ [.int .i64 a1, .int .i64 a2, .int .i64 a3, .int .i64 a4] := by
        rw [hsel]
        exact wrkC_snoc _ _
      have hco : ∀ q, q ≠ (exe, stu) → cntK (selF (b.ent.take (k + 1)) d) q = cntK (selF (b.ent.take k) d) q := fun q hq => by
        rw [hsel]
        exact cntK_other _ _ hq
      have hwo : ∀ q, q ≠ (exe, stu) → wrkC (selF (b.ent.take (k + 1)) d) q = wrkC (selF (b.ent.take k) d) q := fun q hq => by
        rw [hsel]
        exact wrkC_other _ _ hq
      have hwl := wrkC_len (selF (b.ent.take k) d) (exe, stu)
      have hsk : eqV Try.kn Try.T 20 139 (.agg [.str exe, .str stu]) (.agg [.str exe, .str stu]) = some true := (eqVK (exe, stu) (exe, stu)).trans (by simp)
      have hLk : WkS.L b d H.length ⟨k, X, pos⟩ = [.box 25 b.cells, .mp (ksA (keysF (selF (b.ent.take k) d))) (vsA (keysF (selF (b.ent.take k) d)) (wvA H.length pos (selF (b.ent.take k) d)))] ++ X := rfl
      by_cases hin : (exe, stu) ∈ keysF (selF (b.ent.take k) d)
      · obtain ⟨j, vs1, q1, q2, q3, -, -, -, -⟩ := entK (keysF (selF (b.ent.take k) d)) hnd (wvA H.length pos (selF (b.ent.take k) d)) (wvA H.length pos (selF (b.ent.take (k + 1)) d)) .nils (exe, stu) (fun q hq1 hq2 => by
          rw [wvA_in hq1, wvA_in (by rw [hkk]; exact mem_insK.2 (.inl hq1)), hco q hq2, hwo q hq2]) (fun h => absurd hin h)
        rw [wvA_in hin] at q1
        rw [wvA_in (by rw [hkk]; exact mem_insK.2 (.inr rfl)), hcs, hws] at q3
        have htk := htok _ hin
        have hpl := (List.getElem?_eq_some_iff.1 htk).1
        unfold keyC at q1
        simp only at q1
        rw [← hkk] at q1 q3
        have htA : ∀ M, ((H ++ WkS.L b d H.length ⟨k, X, pos⟩).set (H.length + (0 + 1)) M)[H.length + 2 + pos (exe, stu)]? = some (.tok 32 4 (wrkC (selF (b.ent.take k) d) (exe, stu)).length) := fun M => by
          rw [hwl, ← htk, hLk, show H.length + 2 + pos (exe, stu) = H.length + ((pos (exe, stu) + 1) + 1) by omega, set_loc', List.getElem?_append_right (by omega), Nat.add_sub_cancel_left]
          rfl
        have hmA : ∀ M T, (((H ++ WkS.L b d H.length ⟨k, X, pos⟩).set (H.length + (0 + 1)) M).set (H.length + 2 + pos (exe, stu)) T)[H.length + (0 + 1)]? = some M := fun M T => by
          rw [List.getElem?_set_ne (by omega), List.getElem?_set_self]
          rw [hLk]
          simp
        have hm0 : (H ++ WkS.L b d H.length ⟨k, X, pos⟩)[H.length + (0 + 1)]? = some (.mp (ksA (keysF (selF (b.ent.take k) d))) (vsA (keysF (selF (b.ent.take k) d)) (wvA H.length pos (selF (b.ent.take k) d)))) := at_loc0 rfl
        have hfin : ∀ M T M2, ((((H ++ WkS.L b d H.length ⟨k, X, pos⟩).set (H.length + (0 + 1)) M).set (H.length + 2 + pos (exe, stu)) T).set (H.length + (0 + 1)) M2) = H ++ ([.box 25 b.cells, M2] ++ X.set (pos (exe, stu)) T) := fun M T M2 => set3 H X _ _ M T M2 _
        generalize wrkC (selF (b.ent.take k) d) (exe, stu) = wc at *
        generalize cntK (selF (b.ent.take k) d) (exe, stu) = c0 at *
        have hbt : (c0 + 1) * 32 ≤ 140737488355328 := by omega
        have hmx : c0 + 1 ≤ maxLen := Nat.le_trans (show c0 + 1 ≤ 1000001 by omega) (by decide)
        (repeat' ((conv => whnf); (first | (refine IfN.id ?_; first | refine IfN.dT (by omega) ?_ | fail) | (refine EqN.id ?_; first | (refine EqN.addN _ _ (by first | with_reducible rfl | with_reducible exact cst1 | with_reducible exact cst0 | with_reducible exact cst2 | with_reducible exact cst3 | with_reducible exact cst4 | with_reducible exact cst5 | with_reducible exact cst6 | with_reducible exact cst7 | with_reducible exact cst8 | with_reducible exact cst14 | with_reducible exact cst15 | with_reducible exact cst25 | with_reducible exact cst30 | with_reducible exact cst31 | fail) (by first | with_reducible rfl | with_reducible exact cst1 | with_reducible exact cst0 | with_reducible exact cst2 | with_reducible exact cst3 | with_reducible exact cst4 | with_reducible exact cst5 | with_reducible exact cst6 | with_reducible exact cst7 | with_reducible exact cst8 | with_reducible exact cst14 | with_reducible exact cst15 | with_reducible exact cst25 | with_reducible exact cst30 | with_reducible exact cst31 | fail) ?_ ?_; · (repeat' (first | omega | refine And.intro ?_ ?_ | exact bnd_andl (by omega) | exact bnd_andr (by omega) | refine bnd_or ?_ ?_ | refine bnd_or31 ?_ ?_ | refine bnd_xor ?_ ?_ | refine bnd_xor31 ?_ ?_ | refine bnd_shr ?_ | refine bnd_shl ?_ ?_ | refine bnd_mod ?_ | refine bnd_andl ?_ | fail))) | fail) | (refine SideN.mk ?_ ?_; · first | kernel_rfl | omega | exact List.cons_ne_nil _ _ | (simp; done) | (simp; omega) | exact trivial | assumption | fail) | refine SetN.mk _ rfl ?_ | refine NatN.mk _ rfl ?_ | refine SegN.nthE ent0 k rfl (by omega) ent_size e1 ?_ | refine RelN.mk _ _ ⟨⟨_, hsk⟩, q1⟩ ?_ | refine PtrN.base _ hm0 ?_ | refine PtrN.base _ (htA _) ?_ | refine PtrN.base _ (hmA _ _) ?_ | refine SideN.mk ⟨rfl, rfl, rfl, hbt, hmx⟩ ?_ | refine DrawN.mk' [] ?_ | fail))); all_goals (conv => whnf)
        have hlen : (wc ++ [AV.int IntKind.i64 a1, AV.int IntKind.i64 a2, AV.int IntKind.i64 a3, AV.int IntKind.i64 a4]).length = (c0 + 1) * 4 := by simp [hwl]; omega
        have hok : (⟨k + 1, X.set (pos (exe, stu)) (.tok 32 4 (wc ++ [AV.int IntKind.i64 a1, AV.int IntKind.i64 a2, AV.int IntKind.i64 a3, AV.int IntKind.i64 a4]).length), pos⟩ : WkS).Ok b d H.length := by
          refine ⟨by show k + 1 ≤ _; omega, belowH_mem fun B hB => ?_, fun q hq => ?_, fun q1 h1 q2 h2 => ?_⟩
          · simp only [List.length_set]
            rcases mem_set hB with h | rfl
            · exact mem_belowH hlow B h
            · trivial
          · simp only at hq ⊢
            rw [hkk, insK_in hin] at hq
            rw [List.getElem?_set]
            by_cases hqc : pos (exe, stu) = pos q
            · have := hinj _ hin _ hq hqc
              subst this
              rw [if_pos rfl, if_pos hpl, hcs, hlen]
            · rw [if_neg hqc, htok q hq, hco q (fun e => hqc (by rw [e]))]
          · simp only at h1 h2
            rw [hkk, insK_in hin] at h1 h2
            exact hinj q1 h1 q2 h2
        exact ⟨⟨_, hok, by show b.ent.length - (k + 1) < b.ent.length - k; omega, ⟨⟨_, rfl, Wk.refl _⟩, trivial⟩, .inl ⟨rfl, rfl⟩, _, .of_eq (congrArg (fun l => l ++ _) ((hfin _ _ _).trans (by simp only [WkS.L]; rw [q3]))), .inr ⟨by simp [belowRE, below, tr], hok.below⟩⟩⟩
      · obtain ⟨j, vs1, q1, q2, q3, -, -, -, -⟩ := entK (keysF (selF (b.ent.take k) d)) hnd (wvA H.length pos (selF (b.ent.take k) d)) (wvA H.length (fun q => if eqK q (exe, stu) then X.length + 2 else pos q) (selF (b.ent.take (k + 1)) d)) .nils (exe, stu) (fun q hq1 hq2 => by
          have hne : eqK q (exe, stu) = false := by
            cases h : eqK q (exe, stu) with
            | false => rfl
            | true => exact absurd (eqK_iff.1 h) hq2
          rw [wvA_in hq1, wvA_in (by rw [hkk]; exact mem_insK.2 (.inl hq1)), hco q hq2, hwo q hq2]
          simp [hne]) (fun h => wvA_new h)
        rw [wvA_new hin] at q1
        have hc0 : cntK (selF (b.ent.take k) d) (exe, stu) = 0 := by unfold cntK; rw [ofK_nil hin]; rfl
        have hw0 : wrkC (selF (b.ent.take k) d) (exe, stu) = [] := by unfold wrkC; rw [ofK_nil hin]; rfl
        have hlL : (WkS.L b d H.length ⟨k, X, pos⟩).length = X.length + 2 := by simp [hLk]
        rw [wvA_in (by rw [hkk]; exact mem_insK.2 (.inr rfl)), hcs, hws, hc0, hw0] at q3
        simp only [eqK_refl, if_true, List.nil_append] at q3
        have hidx : H.length + 2 + (X.length + 2) = H.length + (WkS.L b d H.length ⟨k, X, pos⟩).length + (0 + 1 + 1) := by omega
        rw [hidx] at q3
        unfold keyC at q1
        simp only at q1
        rw [← hkk] at q1 q3
        have hmA : ∀ M, ((H ++ WkS.L b d H.length ⟨k, X, pos⟩).set (H.length + (0 + 1)) M)[H.length + (0 + 1)]? = some M := fun M => by
          rw [List.getElem?_set_self]
          rw [hLk]
          simp
        have hm0 : (H ++ WkS.L b d H.length ⟨k, X, pos⟩)[H.length + (0 + 1)]? = some (.mp (ksA (keysF (selF (b.ent.take k) d))) (vsA (keysF (selF (b.ent.take k) d)) (wvA H.length pos (selF (b.ent.take k) d)))) := at_loc0 rfl
        have hfin : ∀ M M2, (((H ++ WkS.L b d H.length ⟨k, X, pos⟩).set (H.length + (0 + 1)) M).set (H.length + (0 + 1)) M2) = H ++ ([.box 25 b.cells, M2] ++ X) := fun M M2 => set2 H X _ _ M M2
        (repeat' ((conv => whnf); (first | (refine IfN.id ?_; first | refine IfN.dT (by omega) ?_ | fail) | (refine EqN.id ?_; first | (refine EqN.addN _ _ (by first | with_reducible rfl | with_reducible exact cst1 | with_reducible exact cst0 | with_reducible exact cst2 | with_reducible exact cst3 | with_reducible exact cst4 | with_reducible exact cst5 | with_reducible exact cst6 | with_reducible exact cst7 | with_reducible exact cst8 | with_reducible exact cst14 | with_reducible exact cst15 | with_reducible exact cst25 | with_reducible exact cst30 | with_reducible exact cst31 | fail) (by first | with_reducible rfl | with_reducible exact cst1 | with_reducible exact cst0 | with_reducible exact cst2 | with_reducible exact cst3 | with_reducible exact cst4 | with_reducible exact cst5 | with_reducible exact cst6 | with_reducible exact cst7 | with_reducible exact cst8 | with_reducible exact cst14 | with_reducible exact cst15 | with_reducible exact cst25 | with_reducible exact cst30 | with_reducible exact cst31 | fail) ?_ ?_; · (repeat' (first | omega | refine And.intro ?_ ?_ | exact bnd_andl (by omega) | exact bnd_andr (by omega) | refine bnd_or ?_ ?_ | refine bnd_or31 ?_ ?_ | refine bnd_xor ?_ ?_ | refine bnd_xor31 ?_ ?_ | refine bnd_shr ?_ | refine bnd_shl ?_ ?_ | refine bnd_mod ?_ | refine bnd_andl ?_ | fail))) | fail) | (refine SideN.mk ?_ ?_; · first | kernel_rfl | omega | exact List.cons_ne_nil _ _ | (simp; done) | (simp; omega) | exact trivial | assumption | fail) | refine SetN.mk _ rfl ?_ | refine NatN.mk _ rfl ?_ | refine SegN.nthE ent0 k rfl (by omega) ent_size e1 ?_ | refine RelN.mk _ _ ⟨⟨_, hsk⟩, q1⟩ ?_ | refine PtrN.base _ hm0 ?_ | refine PtrN.base _ (hmA _) ?_ | refine OrN.l ?_ | refine SideN.mk ⟨by decide, rfl, rfl, by decide, by decide⟩ ?_ | refine DrawN.mk' [] ?_ | fail))); all_goals (conv => whnf)
        have hok : (⟨k + 1, X ++ [.box 34 [.str stu, .str exe, .int .i64 day, .int .i64 a1, .int .i64 a2, .int .i64 a3, .int .i64 a4], .box 139 [.str exe, .str stu], .tok 32 4 4], fun q => if eqK q (exe, stu) then X.length + 2 else pos q⟩ : WkS).Ok b d H.length := by
          have hlt2 : ∀ q ∈ keysF (selF (b.ent.take k) d), pos q < X.length := fun q hq => (List.getElem?_eq_some_iff.1 (htok q hq)).1
          have hne : ∀ q ∈ keysF (selF (b.ent.take k) d), eqK q (exe, stu) = false := fun q hq => by
            cases h : eqK q (exe, stu) with
            | false => rfl
            | true => exact absurd (eqK_iff.1 h ▸ hq) hin
          refine ⟨by show k + 1 ≤ _; omega, belowH_mem fun B hB => ?_, fun q hq => ?_, fun q1 h1 q2 h2 => ?_⟩
          · simp only [List.length_append]
            rcases List.mem_append.1 hB with h | h
            · exact Blk.below_mono (by omega) (mem_belowH hlow B h)
            · simp only [List.mem_cons, List.not_mem_nil, or_false] at h
              rcases h with rfl | rfl | rfl
              · simp [Blk.below, belowL, below]
              · simp [Blk.below, belowL, below]
              · trivial
          · simp only at hq ⊢
            rw [hkk, insK_new hin] at hq
            rcases List.mem_append.1 hq with h | h
            · rw [hne q h]
              simp only [Bool.false_eq_true, if_false]
              rw [List.getElem?_append_left (hlt2 q h), htok q h, hco q (fun e => hin (e ▸ h))]
            · simp only [List.mem_singleton] at h
              subst h
              rw [eqK_refl, hcs, hc0]
              simp only [if_true]
              rw [List.getElem?_append_right (by omega), Nat.add_sub_cancel_left]
              rfl
          · simp only at h1 h2 ⊢
            rw [hkk, insK_new hin] at h1 h2
            rcases List.mem_append.1 h1 with h1 | h1 <;> rcases List.mem_append.1 h2 with h2 | h2
            · rw [hne _ h1, hne _ h2]
              exact hinj q1 h1 q2 h2
            · simp only [List.mem_singleton] at h2
              subst h2
              rw [hne _ h1, eqK_refl]
              simp only [if_true, Bool.false_eq_true, if_false]
              intro e
              have := hlt2 _ h1
              omega
            · simp only [List.mem_singleton] at h1
              subst h1
              rw [hne _ h2, eqK_refl]
              simp only [if_true, Bool.false_eq_true, if_false]
              intro e
              have := hlt2 _ h2
              omega
            · simp only [List.mem_singleton] at h1 h2
              rw [h1, h2]
              exact fun _ => rfl
        exact ⟨⟨_, hok, by show b.ent.length - (k + 1) < b.ent.length - k; omega, ⟨⟨_, rfl, Wk.refl _⟩, trivial⟩, .inl ⟨rfl, rfl⟩, [], .of_eq (by
          rw [List.append_nil, hfin]
          simp only [WkS.L]
          rw [← q3]
          simp only [List.append_assoc]
          rfl), .inl rfl⟩⟩
    · have hsel : selF (b.ent.take (k + 1)) d = selF (b.ent.take k) d := by
        rw [hts, selF_snoc, if_neg hd]
      (repeat' ((conv => whnf); (first | (refine IfN.id ?_; first | refine IfN.dT (by omega) ?_ | refine IfN.dF (by omega) ?_ | fail) | (refine EqN.id ?_; first | (refine EqN.addN _ _ (by first | with_reducible rfl | with_reducible exact cst1 | with_reducible exact cst0 | with_reducible exact cst2 | with_reducible exact cst3 | with_reducible exact cst4 | with_reducible exact cst5 | with_reducible exact cst6 | with_reducible exact cst7 | with_reducible exact cst8 | with_reducible exact cst14 | with_reducible exact cst15 | with_reducible exact cst25 | with_reducible exact cst30 | with_reducible exact cst31 | fail) (by first | with_reducible rfl | with_reducible exact cst1 | with_reducible exact cst0 | with_reducible exact cst2 | with_reducible exact cst3 | with_reducible exact cst4 | with_reducible exact cst5 | with_reducible exact cst6 | with_reducible exact cst7 | with_reducible exact cst8 | with_reducible exact cst14 | with_reducible exact cst15 | with_reducible exact cst25 | with_reducible exact cst30 | with_reducible exact cst31 | fail) ?_ ?_; · (repeat' (first | omega | refine And.intro ?_ ?_ | exact bnd_andl (by omega) | exact bnd_andr (by omega) | refine bnd_or ?_ ?_ | refine bnd_or31 ?_ ?_ | refine bnd_xor ?_ ?_ | refine bnd_xor31 ?_ ?_ | refine bnd_shr ?_ | refine bnd_shl ?_ ?_ | refine bnd_mod ?_ | refine bnd_andl ?_ | fail))) | fail) | (refine SideN.mk ?_ ?_; · first | kernel_rfl | omega | exact List.cons_ne_nil _ _ | (simp; done) | (simp; omega) | exact trivial | assumption | fail) | refine SegN.nthE ent0 k rfl (by omega) ent_size e1 ?_ | refine DrawN.mk' [] ?_ | fail))); all_goals (conv => whnf)
      have hok : (⟨k + 1, X, pos⟩ : WkS).Ok b d H.length := ⟨by show k + 1 ≤ _; omega, hlow, by simp only; rw [hsel]; exact htok, by simp only; rw [hsel]; exact hinj⟩
      have heq : WkS.L b d H.length ⟨k, X, pos⟩ = WkS.L b d H.length ⟨k + 1, X, pos⟩ := by simp only [WkS.L, hsel]
      exact ⟨⟨⟨k + 1, X, pos⟩, hok, by show b.ent.length - (k + 1) < b.ent.length - k; omega, ⟨⟨_, rfl, Wk.refl _⟩, trivial⟩, .inl ⟨rfl, rfl⟩, _, .of_eq (congrArg (fun l => (H ++ l) ++ _) heq), .inr ⟨by simp [belowRE, below, tr], hok.below⟩⟩⟩
  · have hkk : k = b.ent.length := by omega
    subst hkk
    rw [List.take_length] at *
    (repeat' ((conv => whnf); (first | (refine IfN.id ?_; first | refine IfN.dF (by omega) ?_ | fail) | refine DrawN.mk' [] ?_ | fail))); all_goals (conv => whnf)
    refine LeftX.of _ rfl rfl ?_
    (repeat' ((conv => whnf); (first | refine DrawN.mk' [] ?_ | fail))); all_goals (conv => whnf)
    refine EndN.detF ⟨ksA_below _ _, vsA_below _ _ _ fun k _ => ⟨fun _ e => (nomatch e), wrkC_below _ _ _⟩⟩ (Frz.mp rfl (FrzL.refl _) (frz_wv _ _ _ _ _ fun k hk => hk)) (Wk.of_eq (by simp only [List.take_length]))
end Go.Proofs.Ytgopbbkpcjgihaa
/-! text M38 -/
namespace Go.Proofs.Ytgopbbkpcjgihaa
open Go.Vsi
set_option maxHeartbeats 4000000
attribute [local irreducible] VW VCall VO bits

def andC (c d : Int) : Int := if c = 0 then d else c
theorem or57_c (c d : Int) (H : Heap) : VDet Try.prog 57 [.sx 2 [.int .i64 c, .int .i64 d]] H (.int .i64 (andC c d)) := by
  unfold andC
  refine fn_det Try.E0 Try.mx Try.func57 (by kernel_rfl) rfl (Nat.le_of_ble_eq_true rfl) rfl fun hcl hbl => ?_
  (repeat' ((conv => whnf); (first | refine DrawN.mk' [] ?_ | fail))); all_goals (conv => whnf)
  refine LoopN.rounds Try.E0 Try.mx 3 rfl ?_
  (repeat' ((conv => whnf); (first | (refine IfN.id ?_; first | refine IfN.not ?_ | refine IfN.tt rfl ?_ | refine IfN.ff rfl ?_ | refine IfN.dec (fun _ => ?_) (fun _ => ?_) | fail) | (refine EqN.id ?_; first | (refine EqN.addN _ _ (by first | with_reducible rfl | with_reducible exact cst1 | with_reducible exact cst0 | with_reducible exact cst2 | with_reducible exact cst3 | with_reducible exact cst4 | with_reducible exact cst5 | with_reducible exact cst6 | with_reducible exact cst7 | with_reducible exact cst8 | with_reducible exact cst14 | with_reducible exact cst15 | with_reducible exact cst25 | with_reducible exact cst30 | with_reducible exact cst31 | fail) (by first | with_reducible rfl | with_reducible exact cst1 | with_reducible exact cst0 | with_reducible exact cst2 | with_reducible exact cst3 | with_reducible exact cst4 | with_reducible exact cst5 | with_reducible exact cst6 | with_reducible exact cst7 | with_reducible exact cst8 | with_reducible exact cst14 | with_reducible exact cst15 | with_reducible exact cst25 | with_reducible exact cst30 | with_reducible exact cst31 | fail) ?_ ?_; · (repeat' (first | omega | refine And.intro ?_ ?_ | exact bnd_andl (by omega) | exact bnd_andr (by omega) | refine bnd_or ?_ ?_ | refine bnd_or31 ?_ ?_ | refine bnd_xor ?_ ?_ | refine bnd_xor31 ?_ ?_ | refine bnd_shr ?_ | refine bnd_shl ?_ ?_ | refine bnd_mod ?_ | refine bnd_andl ?_ | fail))) | fail) | (refine SideN.mk ?_ ?_; · first | kernel_rfl | omega | exact List.cons_ne_nil _ _ | (simp; done) | (simp; omega) | exact trivial | assumption | fail) | refine SegN.mk _ (seg_rfl rfl) ?_ | refine DrawN.mk' [] ?_ | fail))); all_goals (conv => whnf)
  all_goals exact EndN.det trivial (Wk.of_eq (by simp_all))
def cKy (x y : Ky) : Int := andC (cmpS x.1 y.1) (cmpS x.2 y.2)
theorem clo56_c (a b c d : ByteArray) (p q : Int) (H : Heap) : VDet Try.prog 56 [.agg [.str a, .str b, .int .i64 p], .agg [.str c, .str d, .int .i64 q]] H (.int .i64 (cKy (a, b) (c, d))) := by
  unfold cKy
  refine fn_det Try.E0 Try.mx Try.func56 (by kernel_rfl) rfl (Nat.le_of_ble_eq_true rfl) rfl fun hcl hbl => ?_
  (repeat' ((conv => whnf); (first | (refine SideN.mk ?_ ?_; · first | kernel_rfl | omega | exact List.cons_ne_nil _ _ | (simp; done) | (simp; omega) | exact trivial | assumption | fail) | (refine CallD.id ?_; first | refine CallD.det _ (fun _ hq X => cmpS_c _ _ _) ?_ | refine CallD.det _ (fun _ hq X => or57_c _ _ _) ?_ | fail) | refine DrawN.mk' [] ?_ | fail))); all_goals (conv => whnf)
  exact EndN.det trivial (Wk.refl _)

theorem world_grow {w w' : World} (hs : w.heap.size ≤ w'.heap.size) (hsame : ∀ b, b < w.heap.size → w'.heap[b]? = w.heap[b]?) (h1 : w'.os = w.os) (h2 : w'.tape = w.tape) (h3 : w'.output = w.output) (h4 : w.drawn ≤ w'.drawn) :
    ∃ q os, w' = Go.Sort.grow (w.drewN q) os := by
  refine ⟨w'.drawn - w.drawn, w'.heap.extract w.heap.size w'.heap.size, ?_⟩
  obtain ⟨heap, tape, drawn, os, output⟩ := w
  obtain ⟨heap', tape', drawn', os', output'⟩ := w'
  simp only at hs hsame h1 h2 h3 h4
  subst h1 h2 h3
  unfold Go.Sort.grow World.drewN
  simp only [World.mk.injEq, true_and, and_true]
  refine ⟨?_, by omega⟩
  apply Array.ext_getElem?
  intro b
  rw [Array.getElem?_append]
  split
  · rename_i hb
    exact hsame b hb
  · rename_i hb
    rw [Array.getElem?_extract]
    by_cases hb2 : b < heap'.size
    · rw [if_pos (by omega)]
      congr 1
      omega
    · rw [if_neg (by omega), Array.getElem?_eq_none (by omega)]
theorem calls_of {F : FuncId} {avs : List AV} {v : AV} (h : VDet Try.prog F avs [] v) (W : World) (xs : Array Value) (hx : LRel G.none W avs xs.toList) : Calls Try.prog F xs W fun e w' => ∃ c, e = .returned c ∧ (∃ g, VRel g w' v c) ∧ ∃ q os, w' = Go.Sort.grow (W.drewN q) os := by
  have hh : HRel G.none W (Hp.of []) := hrel_none W fun p hp => (List.not_mem_nil hp).elim
  unfold VDet VPure VCall at h
  refine (h.2 G.none W xs hh hx).mono ?_
  rintro e w' ⟨r, H', g', c, rfl, ⟨rfl, rfl⟩, -, hv, hX⟩
  exact ⟨c, rfl, ⟨g', hv⟩, world_grow hX.size (fun b hb => hX.same b hb fun _ => id) hX.os hX.tape hX.output hX.drawn⟩
theorem clo56_k (a b c d : ByteArray) (p q : Int) (W : World) : Calls Try.prog 56 #[.agg #[.string a, .string b, .int .i64 p], .agg #[.string c, .string d, .int .i64 q]] W fun e w' => e = .returned (.int .i64 (cKy (a, b) (c, d))) ∧ ∃ q os', w' = Go.Sort.grow (W.drewN q) os' := by
  refine (calls_of (clo56_c a b c d p q []) W _ (by
    simp only [LRel, VRel]
    exact ⟨_, _, rfl, ⟨_, rfl, _, _, rfl, rfl, _, _, rfl, rfl, _, _, rfl, rfl, rfl⟩, _, _, rfl, ⟨_, rfl, _, _, rfl, rfl, _, _, rfl, rfl, _, _, rfl, rfl, rfl⟩, rfl⟩)).mono ?_
  rintro e w' ⟨v, rfl, ⟨g, hv⟩, hw⟩
  simp only [VRel] at hv
  subst hv
  exact ⟨rfl, hw⟩
end Go.Proofs.Ytgopbbkpcjgihaa
/-! text Y38 -/
namespace Go.Proofs.Ytgopbbkpcjgihaa
open Go.Shelf
def Try.sortf55_ren : Go.Shelf.Ren := ⟨fun | 6 => 55 | 15 => 75 | 14 => 74 | 28 => 95 | 29 => 96 | 20 => 87 | 21 => 88 | 22 => 89 | 23 => 90 | 24 => 91 | 25 => 92 | 26 => 93 | 27 => 94 | 46 => 104 | 47 => 105 | 48 => 106 | 49 => 107 | 50 => 108 | 57 => 109 | n => n, fun | 22 => 65 | 24 => 83 | 25 => 144 | 3 => 3 | 39 => 160 | 0 => 0 | 53 => 190 | 55 => 72 | 4 => 4 | 46 => 184 | 45 => 183 | 50 => 120 | 5 => 5 | 9 => 9 | 66 => 197 | 70 => 170 | 76 => 202 | 77 => 203 | n => n, fun | n => n⟩
theorem Try.sortf55 : Go.Proofs.SlLaysF0.n6 Try.prog Try.sortf55_ren := {
  mixed := by kernel_rfl
  f6 := ⟨Try.f55.name, by decide, Try.func55.trans (congrArg some (by kernel_rfl))⟩
  f14 := ⟨Try.f74.name, by decide, Try.func74.trans (congrArg some (by kernel_rfl))⟩
  f15 := Try.func75.trans (congrArg some (by kernel_rfl))
  f20 := ⟨Try.f87.name, by decide, Try.func87.trans (congrArg some (by kernel_rfl))⟩
  f21 := ⟨Try.f88.name, by decide, Try.func88.trans (congrArg some (by kernel_rfl))⟩
  f22 := ⟨Try.f89.name, by decide, Try.func89.trans (congrArg some (by kernel_rfl))⟩
  f23 := ⟨Try.f90.name, by decide, Try.func90.trans (congrArg some (by kernel_rfl))⟩
  f24 := ⟨Try.f91.name, by decide, Try.func91.trans (congrArg some (by kernel_rfl))⟩
  f25 := ⟨Try.f92.name, by decide, Try.func92.trans (congrArg some (by kernel_rfl))⟩
  f26 := ⟨Try.f93.name, by decide, Try.func93.trans (congrArg some (by kernel_rfl))⟩
  f27 := ⟨Try.f94.name, by decide, Try.func94.trans (congrArg some (by kernel_rfl))⟩
  f28 := Try.func95.trans (congrArg some (by kernel_rfl))
  f29 := Try.func96.trans (congrArg some (by kernel_rfl))
  f46 := ⟨Try.f104.name, by decide, Try.func104.trans (congrArg some (by kernel_rfl))⟩
  f47 := Try.func105.trans (congrArg some (by kernel_rfl))
  f48 := Try.func106.trans (congrArg some (by kernel_rfl))
  f49 := ⟨Try.f107.name, by decide, Try.func107.trans (congrArg some (by kernel_rfl))⟩
  f50 := ⟨Try.f108.name, by decide, Try.func108.trans (congrArg some (by kernel_rfl))⟩
  f57 := ⟨Try.f109.name, by decide, Try.func109.trans (congrArg some (by kernel_rfl))⟩
  t0 := Try.underlying0
  a0 := Try.isAgg0
  z0 := Try.sizeOf0
  v0 := Try.zeroValue0
  t3 := Try.underlying3
  a3 := Try.isAgg3
  z3 := Try.sizeOf3
  v3 := Try.zeroValue3
  t4 := Try.underlying4
  a4 := Try.isAgg4
  z4 := Try.sizeOf4
  v4 := Try.zeroValue4
  t5 := Try.underlying5
  a5 := Try.isAgg5
  z5 := Try.sizeOf5
  v5 := Try.zeroValue5
  t9 := Try.underlying9
  a9 := Try.isAgg9
  z9 := Try.sizeOf9
  v9 := Try.zeroValue9
  t22 := Try.underlying65
  a22 := Try.isAgg65
  z22 := Try.sizeOf65
  v22 := Try.zeroValue65
  t25 := Try.underlying144
  a25 := Try.isAgg144
  z25 := Try.sizeOf144
  v25 := Try.zeroValue144
  t39 := Try.underlying160
  a39 := Try.isAgg160
  z39 := Try.sizeOf160
  v39 := Try.zeroValue160
  t45 := Try.underlying183
  a45 := Try.isAgg183
  z45 := Try.sizeOf183
  v45 := Try.zeroValue183
  t46 := Try.underlying184
  a46 := Try.isAgg184
  z46 := Try.sizeOf184
  v46 := Try.zeroValue184
  t50 := Try.underlying120
  a50 := Try.isAgg120
  z50 := Try.sizeOf120
  v50 := Try.zeroValue120
  t53 := Try.underlying190
  a53 := Try.isAgg190
  z53 := Try.sizeOf190
  v53 := Try.zeroValue190
  t55 := Try.underlying72
  a55 := Try.isAgg72
  z55 := Try.sizeOf72
  v55 := Try.zeroValue72
  t66 := Try.underlying197
  a66 := Try.isAgg197
  z66 := Try.sizeOf197
  v66 := Try.zeroValue197
  t70 := Try.underlying170
  a70 := Try.isAgg170
  z70 := Try.sizeOf170
  v70 := Try.zeroValue170
  t76 := Try.underlying202
  a76 := Try.isAgg202
  z76 := Try.sizeOf202
  v76 := Try.zeroValue202
  t77 := Try.underlying203
  a77 := Try.isAgg203
  z77 := Try.sizeOf203
  v77 := Try.zeroValue203 }
end Go.Proofs.Ytgopbbkpcjgihaa
/-! text N38 -/
namespace Go.Proofs.Ytgopbbkpcjgihaa
open Go.Vsi
open Go.Shelf Go.RowKit Go.Sort
set_option maxHeartbeats 2000000

def cmpB (a b : ByteArray) : Int := if a.data.toList < b.data.toList then -1 else if b.data.toList < a.data.toList then 1 else 0
structure OrdAt {α : Type} (c : α → α → Int) (a : α) : Prop where
  rng : ∀ b, c a b = -1 ∨ c a b = 0 ∨ c a b = 1
  anti : ∀ b, c b a = - c a b
  eq : ∀ b, c a b = 0 → a = b
  refl : c a a = 0
  tr : ∀ b d, c a b ≤ 0 → c b d ≤ 0 → c a d ≤ 0 ∧ (c a d = 0 → c a b = 0 ∧ c b d = 0)
theorem and_rng {c d : Int} (h1 : c = -1 ∨ c = 0 ∨ c = 1) (h2 : d = -1 ∨ d = 0 ∨ d = 1) : andC c d = -1 ∨ andC c d = 0 ∨ andC c d = 1 := by
  unfold andC; split <;> assumption
theorem and_neg (c d : Int) : andC (-c) (-d) = - andC c d := by
  unfold andC
  by_cases h : c = 0
  · rw [if_pos h, if_pos (by omega)]
  · rw [if_neg h, if_neg (by omega)]
theorem and_zero {c d : Int} : andC c d = 0 ↔ c = 0 ∧ d = 0 := by
  unfold andC; split
  · exact ⟨fun h => ⟨by assumption, h⟩, fun h => h.2⟩
  · exact ⟨fun h => absurd h (by assumption), fun h => h.1⟩
theorem and_tr {c1 c2 c3 d1 d2 d3 : Int} (hc : c1 ≤ 0 → c2 ≤ 0 → c3 ≤ 0 ∧ (c3 = 0 → c1 = 0 ∧ c2 = 0)) (hc0 : c1 = 0 → c2 = 0 → c3 = 0) (hd : c1 = 0 → c2 = 0 → d1 ≤ 0 → d2 ≤ 0 → d3 ≤ 0 ∧ (d3 = 0 → d1 = 0 ∧ d2 = 0)) (h1 : andC c1 d1 ≤ 0) (h2 : andC c2 d2 ≤ 0) :
    andC c3 d3 ≤ 0 ∧ (andC c3 d3 = 0 → andC c1 d1 = 0 ∧ andC c2 d2 = 0) := by
  unfold andC at *
  by_cases e1 : c1 = 0
  · by_cases e2 : c2 = 0
    · have e3 := hc0 e1 e2
      rw [if_pos e1] at h1 ⊢
      rw [if_pos e2] at h2 ⊢
      rw [if_pos e3]
      exact hd e1 e2 h1 h2
    · rw [if_pos e1] at h1 ⊢
      rw [if_neg e2] at h2 ⊢
      have := hc (by omega) h2
      have e3 : c3 ≠ 0 := fun h => e2 (this.2 h).2
      rw [if_neg e3]
      exact ⟨this.1, fun h => absurd h e3⟩
  · rw [if_neg e1] at h1 ⊢
    have h2' : c2 ≤ 0 := by
      by_cases e2 : c2 = 0
      · omega
      · rw [if_neg e2] at h2; exact h2
    have := hc h1 h2'
    have e3 : c3 ≠ 0 := fun h => e1 (this.2 h).1
    rw [if_neg e3]
    exact ⟨this.1, fun h => absurd h e3⟩
theorem lt_asymmL {a b : List UInt8} (h : a < b) : ¬ b < a := List.lt_asymm h
theorem cmpB_zero {a b : ByteArray} : cmpB a b = 0 ↔ a = b := by
  constructor
  · intro h
    unfold cmpB at h
    split at h
    · cases h
    · split at h
      · cases h
      · rename_i h1 h2
        have : a.data.toList = b.data.toList := List.le_antisymm (List.not_lt.1 h2) (List.not_lt.1 h1)
        obtain ⟨⟨x⟩⟩ := a
        obtain ⟨⟨y⟩⟩ := b
        simp only at this
        rw [this]
  · rintro rfl
    unfold cmpB
    rw [if_neg (List.lt_irrefl _), if_neg (List.lt_irrefl _)]
theorem cmpB_le {a b : ByteArray} : cmpB a b ≤ 0 ↔ a.data.toList ≤ b.data.toList := by
  unfold cmpB
  constructor
  · intro h
    split at h
    · exact List.le_of_lt (by assumption)
    · split at h
      · omega
      · exact List.not_lt.1 (by assumption)
  · intro h
    split
    · omega
    · rw [if_neg (List.not_lt.2 h)]
      omega
theorem ordB (a : ByteArray) : OrdAt cmpB a := ⟨fun b => by unfold cmpB; split <;> (try split) <;> omega, fun b => by
    unfold cmpB
    by_cases h1 : a.data.toList < b.data.toList
    · rw [if_neg (lt_asymmL h1), if_pos h1, if_pos h1]
      rfl
    · rw [if_neg h1, if_neg h1]
      split <;> rfl, fun b h => cmpB_zero.1 h, cmpB_zero.2 rfl, fun b d h1 h2 => by
  refine ⟨cmpB_le.2 (List.le_trans (cmpB_le.1 h1) (cmpB_le.1 h2)), fun h => ?_⟩
  obtain rfl := cmpB_zero.1 h
  have : a = b := by
    have h3 : a.data.toList = b.data.toList := List.le_antisymm (cmpB_le.1 h1) (cmpB_le.1 h2)
    obtain ⟨⟨x⟩⟩ := a
    obtain ⟨⟨y⟩⟩ := b
    simp only at h3
    rw [h3]
  subst this
  exact ⟨cmpB_zero.2 rfl, cmpB_zero.2 rfl⟩⟩

theorem ordP {α β : Type} {c : α → α → Int} {d : β → β → Int} {a : α} {b : β} (h1 : OrdAt c a) (hr : ∀ a, c a a = 0) (h2 : OrdAt d b) : OrdAt (fun p q : α × β => andC (c p.1 q.1) (d p.2 q.2)) (a, b) :=
  ⟨fun q => and_rng (h1.rng _) (h2.rng _), fun q => by
    show andC (c q.1 a) (d q.2 b) = - andC (c a q.1) (d b q.2)
    rw [h1.anti, h2.anti, and_neg], fun q h => by
    obtain ⟨e1, e2⟩ := and_zero.1 h
    exact Prod.ext (h1.eq _ e1) (h2.eq _ e2), and_zero.2 ⟨h1.refl, h2.refl⟩, fun q r e1 e2 => and_tr (h1.tr _ _) (fun z1 z2 => by
      have := h1.eq _ z1
      rw [this]
      exact z2) (fun z1 z2 => h2.tr _ _) e1 e2⟩
theorem bytesLess_lt : ∀ a b : List UInt8, Op.bytesLess a b = decide (a < b)
  | [], [] => rfl
  | [], b :: m => by simp [Op.bytesLess]
  | a :: l, [] => by simp [Op.bytesLess]
  | a :: l, b :: m => by
    simp only [Op.bytesLess, bytesLess_lt l m]
    rw [Bool.eq_iff_iff]
    simp [List.cons_lt_cons_iff]
theorem ltS_eq (s t : ByteArray) : ltS s t = decide (s.data.toList < t.data.toList) := by
  unfold ltS
  rw [bytesLess_lt, ByteArray.toList_eq, ByteArray.toList_eq]
theorem cmpS_eq (s t : ByteArray) : cmpS s t = cmpB s t := by
  unfold cmpS cmpB
  rw [ltS_eq, eqS, ba_beq]
  by_cases h1 : s.data.toList < t.data.toList
  · simp [h1]
  · by_cases h2 : s = t
    · subst h2
      simp [List.lt_irrefl]
    · have h3 : t.data.toList < s.data.toList := by
        rcases Decidable.em (t.data.toList < s.data.toList) with h | h
        · exact h
        · exfalso
          apply h2
          have : s.data.toList = t.data.toList := List.le_antisymm (List.not_lt.1 h) (List.not_lt.1 h1)
          obtain ⟨⟨x⟩⟩ := s
          obtain ⟨⟨y⟩⟩ := t
          simp only at this
          rw [this]
      simp [h1, h2, h3]
theorem ordKy (x : Ky) : OrdAt cKy x := by
  obtain ⟨a, b⟩ := x
  have h := ordP (c := cmpB) (d := cmpB) (a := a) (b := b) (ordB a) (fun a => (ordB a).refl) (ordB b)
  have e : cKy = fun p q : Ky => andC (cmpB p.1 q.1) (cmpB p.2 q.2) := by
    funext p q
    unfold cKy
    rw [cmpS_eq, cmpS_eq]
  rw [e]
  exact h
theorem swoKy : SWO (ltOf cKy) := by
  have ha : ∀ x y, cKy y x = - cKy x y := fun x y => (ordKy x).anti y
  refine ⟨fun x => ?_, fun x y z h1 h2 => ?_, fun x y z h1 h2 => ?_⟩
  · unfold ltOf
    rw [(ordKy x).refl]
    rfl
  · unfold ltOf at *
    simp only [decide_eq_true_eq] at *
    obtain ⟨q1, q2⟩ := (ordKy x).tr y z (by omega) (by omega)
    have : cKy x z ≠ 0 := fun e => by have := (q2 e).1; omega
    omega
  · unfold ltOf at *
    simp only [decide_eq_false_iff_not] at *
    have h3 := ha x y
    have h4 := ha y z
    obtain ⟨q1, -⟩ := (ordKy z).tr y x (by omega) (by omega)
    have h5 := ha x z
    omega
theorem totKy (x y : Ky) (h1 : ltOf cKy x y = false) (h2 : ltOf cKy y x = false) : x = y := by
  unfold ltOf at h1 h2
  simp only [decide_eq_false_iff_not] at h1 h2
  have := (ordKy x).anti y
  exact (ordKy x).eq y (by omega)
def rowC (pts : Ky → Int) (k : Ky) : List AV := [.str k.1, .str k.2, .int .i64 (pts k)]
def rowV (pts : Ky → Int) (k : Ky) : List Value := [.string k.1, .string k.2, .int .i64 (pts k)]
theorem clo56_lays (pts : Ky → Int) (blk off size : Nat) (w : World) : CmpLays Try.prog 56 #[] (rowV pts) 3 cKy blk off size w :=
  fun _ _ _ _ x y => clo56_k x.1 x.2 y.1 y.2 (pts x) (pts y) _
def sortY (l : List Ky) : List Ky := l.mergeSort fun x y => !(ltOf cKy) y x
theorem sortY_perm (l : List Ky) : (sortY l).Perm l := List.mergeSort_perm l _
theorem sortY_len (l : List Ky) : (sortY l).length = l.length := (sortY_perm l).length_eq
theorem rowC_len (pts : Ky → Int) (l : List Ky) : (l.flatMap (rowC pts)).length = l.length * 3 := by
  induction l with
  | nil => rfl
  | cons x l ih => rw [List.flatMap_cons, List.length_append, ih, List.length_cons]; simp only [rowC, List.length_cons, List.length_nil]; omega
theorem rowV_len (pts : Ky → Int) (l : List Ky) : (l.flatMap (rowV pts)).length = l.length * 3 := by
  induction l with
  | nil => rfl
  | cons x l ih => rw [List.flatMap_cons, List.length_append, ih, List.length_cons]; simp only [rowV, List.length_cons, List.length_nil]; omega
theorem row_rel (pts : Ky → Int) (g : G) (w : World) : ∀ l : List Ky, LRel g w (l.flatMap (rowC pts)) (l.flatMap (rowV pts))
  | [] => by simp [LRel]
  | x :: l => by
    rw [List.flatMap_cons, List.flatMap_cons]
    refine LRel.append ?_ (row_rel pts g w l)
    simp [rowC, rowV, LRel, VRel]
theorem row_of {pts : Ky → Int} {g : G} {w : World} : ∀ {l : List Ky} {cs : List Value}, LRel g w (l.flatMap (rowC pts)) cs → cs = l.flatMap (rowV pts)
  | [], cs, h => by simpa [LRel] using h
  | x :: l, cs, h => by
    rw [List.flatMap_cons] at h
    simp only [rowC, List.cons_append, List.nil_append, LRel, VRel] at h
    obtain ⟨c, r, rfl, rfl, d, r2, rfl, rfl, e, r3, rfl, rfl, h⟩ := h
    rw [row_of h, List.flatMap_cons]
    rfl
theorem flat_get (pts : Ky → Int) : ∀ (l : List Ky) (t : Nat), t < l.length * 3 → (l.flatMap (rowV pts))[t]! = ((rowV pts) l[t / 3]!)[t % 3]!
  | [], t, h => by simp at h
  | x :: l, t, h => by
    rw [List.flatMap_cons]
    rcases Nat.lt_or_ge t 3 with h2 | h2
    · have : t = 0 ∨ t = 1 ∨ t = 2 := by omega
      rcases this with rfl | rfl | rfl <;> rfl
    · obtain ⟨u, rfl⟩ : ∃ u, t = u + 3 := ⟨t - 3, by omega⟩
      have e1 : (u + 3) / 3 = u / 3 + 1 := by omega
      have e2 : (u + 3) % 3 = u % 3 := by omega
      have ih := flat_get pts l u (by simp at h; omega)
      rw [e1, e2]
      have : (rowV pts x ++ l.flatMap (rowV pts))[u + 3]! = (l.flatMap (rowV pts))[u]! := rfl
      rw [this, ih]
      rfl
theorem flatK_eq (pts : Ky → Int) (l : List Ky) : flatK (rowV pts) 3 l.toArray = (l.flatMap (rowV pts)).toArray := by
  apply Array.ext
  · rw [size_flatK, List.size_toArray, List.size_toArray, rowV_len]
  · intro t h1 h2
    have ht : t < l.length * 3 := by simpa using h1
    have e1 := get_flatK (rowV pts) 3 l.toArray t (by simpa using ht)
    have e2 := flat_get pts l t ht
    rw [getElem!_pos _ t h1] at e1
    rw [e1]
    have e3 : (l.flatMap (rowV pts))[t]! = (l.flatMap (rowV pts)).toArray[t]'h2 := by
      have : t < (l.flatMap (rowV pts)).length := by simpa using h2
      rw [getElem!_pos _ t this]
      simp
    rw [← e3, e2]
    simp
theorem put_take (F cs : Array Value) (h : F.size ≤ cs.size) : (putCells id 0 F cs).toList.take F.size = F.toList ∧ (putCells id 0 F cs).size = cs.size := by
  refine ⟨?_, by simp [putCells]⟩
  apply List.ext_getElem?
  intro t
  rw [List.getElem?_take]
  by_cases ht : t < F.size
  · rw [if_pos ht]
    have h1 : t < cs.size := by omega
    simp [putCells, h1, ht]
  · rw [if_neg ht, List.getElem?_eq_none (by simpa using ht)]
theorem sort55_c (H : Heap) (i : Nat) (pts : Ky → Int) (l : List Ky) (hl : l.length ≤ 1000000000000) (hi : H[i]? = some (.vec 83 3 (l.flatMap (rowC pts)))) :
    VCall Try.prog 55 [.vs i l.length, .clo (.func 56) [] []] H (fun r H' => r = .tup [] ∧ H' = H.set i (.vec 83 3 ((sortY l).flatMap (rowC pts)))) := by
  refine ⟨⟨_, Try.func55, by kernel_rfl, rfl⟩, fun g w xs hH hL => ?_⟩
  simp only [LRel, VRel, fnG] at hL
  obtain ⟨c, r, has, ⟨hok, hle, A, cap, rfl, hncap, hcur⟩, c2, r2, rfl, ⟨-, f', c', rfl, hf', hc'⟩, rfl⟩ := hL
  have hf' : f' = #[] := by simpa using congrArg List.toArray hf'
  have hc' : c' = #[] := by simpa using congrArg List.toArray hc'
  have has : xs = #[.slice A l.length cap, .func (.func 56) f' c'] := by simpa using congrArg List.toArray has
  subst has hf' hc'
  have hat : Vsi.At (Hp.of H) i (.vec 83 3 (l.flatMap (rowC pts))) := by
    show (Hp.of H).all[i]? = _
    simpa [Hp.all, Hp.of] using hi
  obtain ⟨b1, b2, b3⟩ := hH.rel i _ hat
  obtain ⟨hA, hcap⟩ := hcur (by rw [b1, b2, rowC_len])
  have hput : Put (Hp.of H) i (.vec 83 3 ((sortY l).flatMap (rowC pts))) (Hp.of (H.set i (.vec 83 3 ((sortY l).flatMap (rowC pts))))) := ⟨by simp [Hp.all, Hp.of], by simp [Hp.of], rfl, rfl⟩
  rcases b3 with ⟨-, hl0, -⟩ | ⟨b, cs, hbase, hheap, hsize, hcm, hlen, hrel, hown⟩
  · have hz : l = [] := by
      have := rowC_len pts l
      rw [hl0] at this
      exact List.eq_nil_of_length_eq_zero (by simp at this; omega)
    subst hz
    have hc := AnyF.slices_SortFunc_none Try.sortf55 A cap (.func (.func 56) #[] #[]) w
    change Calls Try.prog 55 _ _ _ at hc
    refine hc.mono ?_
    rintro e w' ⟨rfl, rfl⟩
    have hset : H.set i (.vec 83 3 ((sortY []).flatMap (rowC pts))) = H := by
      apply List.ext_getElem?
      intro j
      rw [List.getElem?_set]
      by_cases hij : i = j
      · subst hij
        have := (List.getElem?_eq_some_iff.1 hi).1
        have hs0 : sortY [] = [] := by unfold sortY; simp
        simp only [if_true, this]
        rw [hi, hs0]
      · rw [if_neg hij]
    exact ⟨_, _, g, _, rfl, ⟨rfl, rfl⟩, by rw [hset]; exact hH, by simp [VRel, LRel], Ext.refl _ _⟩
  · rw [hbase] at hA
    simp only [Option.map_some] at hA
    subst hA
    have hpre := row_of hrel
    have hlen2 : (l.flatMap (rowC pts)).length = l.length * 3 := rowC_len pts l
    have hH2 : HoldsK (rowV pts) 3 w b 0 l.toArray := by
      unfold HoldsK
      rw [flatK_eq]
      intro j hj
      have hj2 : j < l.length * 3 := by
        have := rowV_len pts l
        simp only [List.size_toArray] at hj
        omega
      have hjc : j < cs.size := by omega
      have hg : cs[j]? = some ((l.flatMap (rowV pts)).toArray[j]!) := by
        have h1 : (cs.toList.take (l.flatMap (rowC pts)).length)[j]? = (l.flatMap (rowV pts))[j]? := by rw [hpre]
        rw [List.getElem?_take, if_pos (by omega)] at h1
        have h2 : (l.flatMap (rowV pts))[j]? = some ((l.flatMap (rowV pts)).toArray[j]!) := by
          have : j < (l.flatMap (rowV pts)).length := by simpa using hj
          rw [getElem!_pos _ j hj]
          simp
        rw [h2] at h1
        simpa using h1
      refine ⟨cell_iff.2 ⟨cs, 83, (0, 0), hheap, by simpa using hg⟩, ?_⟩
      simp [World.frozen?, hheap]
    have hc := AnyQ.slices_SortFunc_total Try.sortf55 3 Try.isAgg83 Try.sizeOf83 (rowV pts) (fun _ => rfl) (fun x v hv => by simp [rowV] at hv; rcases hv with rfl | rfl | rfl <;> rfl) cKy swoKy 56 #[] b 0 cap l.toArray w (enters_of Try.func56 (by kernel_rfl) rfl) (clo56_lays pts b 0 _ w) hH2 (lt_size hheap) (by simp; omega) totKy
    change Calls Try.prog 55 _ _ _ at hc
    simp only [List.size_toArray] at hc
    refine hc.mono ?_
    rintro e w' ⟨rfl, q, os, rfl⟩
    have hsl : l.mergeSort (fun x y => !(ltOf cKy) y x) = sortY l := rfl
    rw [hsl]
    have hF : flatK (rowV pts) 3 (sortY l).toArray = ((sortY l).flatMap (rowV pts)).toArray := flatK_eq _ _
    have hFs : ((sortY l).flatMap (rowV pts)).toArray.size ≤ cs.size := by
      rw [List.size_toArray, rowV_len, sortY_len, ← hlen2]
      exact hlen
    obtain ⟨p1, p2⟩ := put_take ((sortY l).flatMap (rowV pts)).toArray cs hFs
    have hw : ∀ k, (sortWorldK (rowV pts) 3 w b 0 q (sortY l).toArray os).heap[k]? = if k < w.heap.size then (w.heap.modify b (onCells (putCells id 0 ((sortY l).flatMap (rowV pts)).toArray)))[k]? else (os[k - w.heap.size]?) := by
      intro k
      unfold sortWorldK putRowK putRow mapBlock grow Sort.ahead
      rw [hF]
      simp only [Array.getElem?_append, Array.size_modify]
    obtain ⟨hH3, hX⟩ := hH.setVec (w' := sortWorldK (rowV pts) 3 w b 0 q (sortY l).toArray os) (cs' := putCells id 0 ((sortY l).flatMap (rowV pts)).toArray cs) hat hbase hheap (by
        rw [hw, if_pos (lt_size hheap), Array.getElem?_modify, if_pos rfl, hheap]
        rfl) p2 (fun k hk hkb => by
        rw [hw, if_pos hk, Array.getElem?_modify, if_neg (Ne.symm hkb)]) (size_sortWorldK_c (rowV pts) 3 w b 0 q _ os) rfl rfl rfl (Nat.le_add_right w.drawn q) (by
        have e1 : ((sortY l).flatMap (rowC pts)).length = ((sortY l).flatMap (rowV pts)).toArray.size := by rw [List.size_toArray, rowV_len, rowC_len]
        rw [e1, p1]
        exact row_rel pts g w (sortY l)) (by rw [rowC_len _, rowC_len _, sortY_len]) hput
    exact ⟨_, _, g, _, rfl, ⟨rfl, rfl⟩, hH3, by simp [VRel, LRel], hX⟩
end Go.Proofs.Ytgopbbkpcjgihaa
